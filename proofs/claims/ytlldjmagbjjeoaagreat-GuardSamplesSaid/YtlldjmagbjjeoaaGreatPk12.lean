/- Contracts and plain laws, several texts in one (ORow, GColl, NW19). No conditions beyond those stated. -/
import Derived.Great.BuildSlice
import Derived.Test.YtlldjmagbjjeoaaGreatPk7
set_option maxRecDepth 100000
set_option maxHeartbeats 40000000
namespace Go.Proofs.YtlldjmagbjjeoaaGreat
open Go.RowKit
set_option linter.unusedVariables false
theorem addr_add (b o q : Nat) : (Addr.add ⟨b,o,none⟩ q) = ⟨b,o + q,none⟩:=by
 rw [Addr.add]
 by_cases h0 : q = 0
 ·subst h0; simp
 ·simp [h0]
def RowsOk (c : Nat) (rs : List (List Value)) : Prop:=∀ r ∈ rs,r.length = c /\ ∀ u ∈ r,u.oneCell' = true
theorem RowsOk.append {c : Nat} {rs ms : List (List Value)} (h : RowsOk c rs) (h' : RowsOk c ms) : RowsOk c (rs ++ ms):=fun r hr => by
 rcases List.mem_append.1 hr with hr | hr
 ·exact h r hr
 ·exact h' r hr
theorem RowsOk.nil (c : Nat) : RowsOk c []:=fun r hr => by simp at hr
theorem RowsOk.one {c : Nat} {r : List Value} (h : r.length = c) (h1 : ∀ u ∈ r,u.oneCell' = true) : RowsOk c [r]:=fun r' hr => by
 rw [List.mem_singleton.1 hr]; exact ⟨h,h1⟩
theorem flat_length {c : Nat} {rs : List (List Value)} (h : RowsOk c rs) : rs.flatten.length = rs.length * c:=by
 induction rs with
 | nil => simp
 | cons r t ih =>
  rw [List.flatten_cons,List.length_append,ih fun x hx => h x (List.mem_cons_of_mem _ hx),(h r (by simp)).1,List.length_cons,Nat.succ_mul]
  omega
theorem flat_at {c : Nat} {rs : List (List Value)} (h : RowsOk c rs) {i j : Nat} {r : List Value} (hi : rs[i]? = some r) (hj : j < c) : rs.flatten[i * c + j]? = r[j]? := by
 induction rs generalizing i with
 | nil => simp at hi
 | cons x t ih =>
  have hx:=(h x (by simp)).1
  cases i with
  | zero =>
   simp only [List.getElem?_cons_zero,Option.some.injEq] at hi
   subst hi
   rw [List.flatten_cons,Nat.zero_mul,Nat.zero_add,List.getElem?_append_left (by omega)]
  | succ i =>
   rw [List.flatten_cons,List.getElem?_append_right (by rw [hx,Nat.succ_mul]; omega),hx,show (i + 1) * c + j - c = i * c + j by rw [Nat.succ_mul]; omega]
   exact ih (fun r hr => h r (List.mem_cons_of_mem _ hr)) (by simpa using hi)
theorem flat_split {c k i : Nat} {rs : List (List Value)} {u : Value} (h : RowsOk c rs) (hc : 0 < c) (hk : rs.flatten[k]? = some u) : ∃ i j r,k = i * c + j /\ j < c /\ rs[i]? = some r /\ r[j]? = some u:=by
 have hkl:=(List.getElem?_eq_some_iff.1 hk).1
 rw [flat_length h] at hkl
 have h1 : k / c < rs.length:=Nat.div_lt_of_lt_mul (by rw [Nat.mul_comm]; exact hkl)
 have h2 : k = k / c * c + k % c:=by rw [Nat.mul_comm]; exact (Nat.div_add_mod k c).symm
 refine ⟨k / c,k % c,_,h2,Nat.mod_lt _ hc,List.getElem?_eq_getElem h1,?_⟩
 rw [<- flat_at h (List.getElem?_eq_getElem h1) (Nat.mod_lt _ hc),<- h2]
 exact hk
def OwnR (c T base : Nat) (w : World) (v : Value) (rs : List (List Value)) : Prop:=w.ownsRow base T c v rs.length rs.flatten /\ RowsOk c rs
theorem OwnR.nil (c T base : Nat) (w : World) : OwnR c T base w (.slice none 0 0) []:=⟨World.ownsRow_nil w base T c,RowsOk.nil c⟩
section
variable {c T base : Nat} {w w' : World} {v : Value} {rs : List (List Value)}
theorem OwnR.old {B : Nat} (h : OwnR c T base w v rs) (hb : Below B w w') (hB : w.heap.size <= B) : OwnR c T base w' v rs:=⟨ownsRow_old h.1 hb hB,h.2⟩
theorem OwnR.kept {row : Option Nat} (h : OwnR c T base w v rs) (hg : w.grownBy w' row) (hne : v.ownBlock = none \/ v.ownBlock ≠ row) : OwnR c T base w' v rs:=⟨World.ownsRow.kept h.1 hg hne,h.2⟩
theorem OwnR.mono {base' : Nat} (h : OwnR c T base w v rs) (hb : base' <= base) : OwnR c T base' w v rs:=⟨ownsRow_mono h.1 hb,h.2⟩
theorem OwnR.form (h : OwnR c T base w v rs) : ∃ a n,v = .slice a rs.length n /\ rs.length <= n /\ n <= maxLen:=ownsRow_form h.1
theorem OwnR.low (h : OwnR c T base w v rs) {r : Nat} (hr : v.ownBlock = some r) : base <= r:=(ownsRow_cells h.1 hr).1
theorem OwnR.lt (h : OwnR c T base w v rs) {r : Nat} (hr : v.ownBlock = some r) : r < w.heap.size:=ownsRow_lt h.1 hr
theorem OwnR.rows (h : OwnR c T base w v rs) : RowsV c (fun i j => ((rs[i]?.getD [])[j]?).getD undef) w.heap.size w v rs.length:=by
 rcases h.1.2 with ⟨rfl,h0⟩ | ⟨g,cap,cur,rfl,hb,hg,hn,hm,hs,ht⟩
 ·have hr : rs = []:=List.eq_nil_of_length_eq_zero h0
  subst hr
  exact RowsV.nil none 0 (Nat.zero_le _) (fun _ => rfl)
 ·refine RowsV.mk_cells hn hm (Array.getElem?_eq_some_iff.1 hg).1 fun i hi j hj => ?_
  have h1:=flat_at h.2 (List.getElem?_eq_getElem hi) hj
  have hl : (rs[i]).length = c:=(h.2 _ (List.getElem_mem hi)).1
  rw [List.getElem?_eq_getElem (show j < (rs[i]).length by omega)] at h1
  have := World.ownsRow.cells h.1 (g:=g) rfl (i * c + j) _ h1
  rw [List.getElem?_eq_getElem hi,Option.getD_some,List.getElem?_eq_getElem (show j < (rs[i]).length by omega),Option.getD_some]
  rw [Addr.add] at this
  by_cases h0 : i * c + j = 0
  ·rw [h0] at this ⊢; simpa using this
  ·rw [if_neg h0] at this; simpa using this
theorem Blk.ty_ne {W : World} {b t t' : Nat} {cs cs' : Array Value} (h : Blk W b cs t) (h' : Blk W b cs' t') : t = t':=by
 unfold Blk at h h'
 rw [h] at h'
 simp only [Option.some.injEq,Obj.cells.injEq] at h'
 exact h'.2.1
theorem OwnR.blk {g : Nat} (h : OwnR c T base w v rs) (hg : v.ownBlock = some g) : ∃ cur,Blk w g cur T:=by
 rcases h.1.2 with ⟨rfl,_⟩ | ⟨g',cap',cur,rfl,_,hb,_⟩
 ·cases hg
 ·obtain rfl : g' = g:=by simpa [Value.ownBlock] using hg
  exact ⟨cur,hb⟩
theorem rows_apart {c' T' base' : Nat} {rs' : List (List Value)} {v' : Value} {g : Nat} (h : OwnR c T base w v rs) (h' : OwnR c' T' base' w v' rs') (hT : T ≠ T') (hg : v.ownBlock = some g) : v'.ownBlock ≠ some g:=fun e => by
 obtain ⟨_,h1⟩:=h.blk hg
 obtain ⟨_,h2⟩:=h'.blk e
 exact hT (h1.ty_ne h2)
theorem wp_append_rows {o : Oper} {a : Act} {K : Act -> World -> Prop} {Q : Exit -> Act -> World -> Prop} (s x : Operand) (t : TypeId)
  (ho : o.op = .call { callee:=.builtin .append,args:=#[s,x],argTypes:=#[t,t] }) (ht : Tryz.prog.underlying t = some (.slice T)) {zero : Value} {bytes : Nat}
  (hi : (Tryz.prog.info? T).map (fun i => (i.zero,i.size,i.bytes)) = some (some zero,c,bytes)) (hzs : zero.cells.size = c) (hc : 0 < c)
  (hs : a.eval s = v) (hown : OwnR c T base w v rs) {b off m cap : Nat} {ms : List (List Value)} (hx : a.eval x = .slice (some ⟨b,off,none⟩) m cap) (hms : ms.length = m) (hok : RowsOk c ms)
  (hcell : ∀ i r j u,ms[i]? = some r -> r[j]? = some u -> w.cell? ⟨b,off + (i * c + j),none⟩ = some u) (hm : 0 < m) (h63 : rs.length + m <= maxLen) (hby : (rs.length + m) * bytes <= 140737488355328) (hbase : base <= w.heap.size)
  (h : ∀ g cap w',OwnR c T base w' (.slice (some ⟨g,0,none⟩) (rs.length + m) cap) (rs ++ ms) -> w.grownBy w' v.ownBlock -> (v.ownBlock = some g \/ g = w.heap.size) -> K (a.put o.dst (.slice (some ⟨g,0,none⟩) (rs.length + m) cap)) w') : o.wp Tryz.prog a w K Q:=by
 obtain ⟨i0,hi,hz0,hz1,hz2⟩:=info_parts hi
 refine wp_append_lies w s x t ho base T i0 zero c bytes ht hi hz0 hz1 hz2 hzs hc v rs.length rs.flatten hs hown.1 ⟨b,off,none⟩ m cap ms.flatten hx (by rw [flat_length hok,hms])
  (fun k u hk => by
   obtain ⟨i,j,r,rfl,hj,hr,hu⟩:=flat_split (i:=0) hok hc hk
   have := hcell i r j u hr hu
   rw [addr_add]; exact this)
  (fun u hu => by obtain ⟨r,hr,hur⟩:=List.mem_flatten.1 hu; exact (hok r hr).2 u hur) hm h63 hby hbase _ rfl fun g cap w' h1 h2 h3 h4 => h g cap w' ⟨?_,hown.2.append hok⟩ h2 h3
 rw [List.length_append,List.flatten_append,hms]
 exact h1
theorem wpList_append_rows {ops : Array Oper} {rest : List Oper} {o : Oper} {a : Act} {Q : Exit -> Act -> World -> Prop} (hgd : o.guard = none) (s x : Operand) (t : TypeId)
  (ho : o.op = .call { callee:=.builtin .append,args:=#[s,x],argTypes:=#[t,t] }) (ht : Tryz.prog.underlying t = some (.slice T)) {zero : Value} {bytes : Nat}
  (hi : (Tryz.prog.info? T).map (fun i => (i.zero,i.size,i.bytes)) = some (some zero,c,bytes)) (hzs : zero.cells.size = c) (hc : 0 < c)
  (hs : a.eval s = v) (hown : OwnR c T base w v rs) {b off m cap : Nat} {ms : List (List Value)} (hx : a.eval x = .slice (some ⟨b,off,none⟩) m cap) (hms : ms.length = m) (hok : RowsOk c ms)
  (hcell : ∀ i r j u,ms[i]? = some r -> r[j]? = some u -> w.cell? ⟨b,off + (i * c + j),none⟩ = some u) (hm : 0 < m) (h63 : rs.length + m <= maxLen) (hby : (rs.length + m) * bytes <= 140737488355328) (hbase : base <= w.heap.size)
  (h : ∀ g cap w',OwnR c T base w' (.slice (some ⟨g,0,none⟩) (rs.length + m) cap) (rs ++ ms) -> w.grownBy w' v.ownBlock -> (v.ownBlock = some g \/ g = w.heap.size) -> wpList Tryz.prog ops Q rest (a.put o.dst (.slice (some ⟨g,0,none⟩) (rs.length + m) cap)) w') : wpList Tryz.prog ops Q (o :: rest) a w :=
 wpList_plain hgd fun _ hK => wp_append_rows s x t ho ht hi hzs hc hs hown hx hms hok hcell hm h63 hby hbase fun g cap w' h1 h2 h3 => hK _ _ (h g cap w' h1 h2 h3)
end
def wRows (l : List Nat) : List (List Value):=l.map fun x : Nat => [.int .u32 (x : Int)]
theorem collector_any (P : Nat) (w : World) :
  Calls Tryz.prog 113 #[.pointer (some ⟨P,0,none⟩)] w fun e w' => e = .returned (.func (.func 120) #[] #[.pointer (some ⟨w.heap.size + 1,0,none⟩),.pointer (some ⟨w.heap.size,0,none⟩)]) ∧
   w' = (w.alloc (.cells #[.pointer (some ⟨P,0,none⟩)] 149)).alloc (.cells #[.int .u64 0] 81):=by
 go_enter Tryz.func113,Tryz.ntmps113
 go_wp2_with fail
 go_ret
 exact ⟨by simp,by simp⟩
def collP (base Cb Xb Pb : Nat) (l : List Nat) (c : Nat) (W : World) : Prop :=
 Blk W Cb #[.int .u64 c] 81 /\ Blk W Xb #[.pointer (some ⟨Pb,0,none⟩)] 149 /\ ∃ v,Blk W Pb #[v] 121 /\ OwnR 1 130 base W v (wRows l)
theorem Tryz.infoU32G : (Tryz.prog.info? 130).map (fun i => (i.zero,i.size,i.bytes)) = some (some (.int .u32 0),1,4):=by kernel_rfl
theorem wRows_ok (l : List Nat) : RowsOk 1 (wRows l):=fun r hr => by
 obtain ⟨x,_,rfl⟩:=List.mem_map.1 hr
 exact ⟨rfl,fun u hu => by rw [List.mem_singleton.1 hu]; rfl⟩
theorem coll_any (base Cb Xb Pb : Nat) (l : List Nat) (c s : Nat) (w : World) (h : collP base Cb Xb Pb l c w) (hb : base <= w.heap.size) (hs : s + c < 2 ^ 64) (hl : l.length < 2 ^ 30) :
  Calls Tryz.prog 120 #[.int .u64 s,.pointer (some ⟨Cb,0,none⟩),.pointer (some ⟨Xb,0,none⟩)] w fun e w' => e = .returned (.tuple #[]) /\ collP base Cb Xb Pb (l ++ [(s + c) % 2 ^ 32]) ((s + c) / 2 ^ 32) w' ∧
   w.heap.size <= w'.heap.size /\ Below (min base (min Cb Pb)) w w':=by
 obtain ⟨qc,qx,v,qp,ho⟩:=h
 obtain ⟨t,ht⟩ : ∃ t,s + c = t:=⟨_,rfl⟩
 have hw1 : IntKind.u64.wrap ((s : Int) + (c : Int)) = (t : Int):=by rw [IntKind.wrap_u64]; omega
 rw [ht] at hs ⊢
 obtain ⟨d,hd⟩ : ∃ d,t % 2 ^ 32 = d:=⟨_,rfl⟩
 obtain ⟨cy,hcy⟩ : ∃ cy,t / 2 ^ 32 = cy:=⟨_,rfl⟩
 rw [hd,hcy]
 have hw2 : IntKind.u32.wrap (t : Int) = (d : Int):=by rw [IntKind.wrap_u32]; omega
 have hdv : (t : Int) / 4294967296 = (cy : Int):=by omega
 clear ht hd hcy
 have c0:=qc.one.1
 go_enter Tryz.func120,Tryz.ntmps120
 go_upto_region 1 with fail
 have lX:=qx.lt
 have lP:=qp.lt
 refine region_plain (fun W' => Blk W' Xb #[.pointer (some ⟨Pb,0,none⟩)] 149 /\ Blk W' Pb #[v] 121) [9] (by kernel_rfl) ?_
 have qS : (fun W' => Blk W' Xb #[.pointer (some ⟨Pb,0,none⟩)] 149 /\ Blk W' Pb #[v] 121) w.drew:=⟨qx,qp⟩
 refine wpAnyD_tk (i:=0) (v:=.pointer (some ⟨Pb,0,none⟩)) rfl (.inl ⟨by kernel_rfl,fun W' hS => by have u0:=hS.1.one.1; go_simp⟩) qS ?_
 refine wpAnyD_tk (i:=1) (v:=.pointer (some ⟨Pb,0,none⟩)) rfl (.inl ⟨by kernel_rfl,fun W' hS => by have u0:=hS.1.one.1; go_simp⟩) qS ?_
 refine wpAnyD_tp (i:=2) (v:=.pointer (some ⟨Pb,0,none⟩)) rfl qS ?_
 refine wpAnyD_tk (i:=3) (v:=v) rfl (.inl ⟨by kernel_rfl,fun W' hS => by have u0:=hS.2.one.1; go_simp⟩) qS ?_
 refine wpAnyD_tp (i:=4) (v:=.int .u64 (t : Int)) rfl qS ?_
 refine wpAnyD_tp (i:=5) (v:=.int .u32 (d : Int)) rfl qS ?_
 obtain ⟨va,vn,hvf,_,_⟩:=ho.form
 rw [show (wRows l).length = l.length by simp [wRows]] at hvf
 subst hvf
 have hCP : (Value.slice va l.length vn).ownBlock ≠ some Cb:=fun e => by obtain ⟨_,h9⟩:=ho.blk e; exact absurd (h9.ty_ne qc) (by decide)
 have hXP : (Value.slice va l.length vn).ownBlock ≠ some Xb:=fun e => by obtain ⟨_,h9⟩:=ho.blk e; exact absurd (h9.ty_ne qx) (by decide)
 have hPP : (Value.slice va l.length vn).ownBlock ≠ some Pb:=fun e => by obtain ⟨_,h9⟩:=ho.blk e; exact absurd (h9.ty_ne qp) (by decide)
 have hCX : Cb ≠ Xb:=fun e => by subst e; exact absurd (qc.ty_ne qx) (by decide)
 have hCb : Cb ≠ Pb:=fun e => by subst e; exact absurd (qc.ty_ne qp) (by decide)
 have hXb : Xb ≠ Pb:=fun e => by subst e; exact absurd (qx.ty_ne qp) (by decide)
 obtain ⟨W1,hW1⟩ : ∃ W1,(w.drew).alloc (.cells #[.int .u32 (d : Int)] 130) = W1:=⟨_,rfl⟩
 have b1 : Below w.heap.size w W1:=by rw [<- hW1]; exact (below_quiet (Below.refl _ _)).alloc (Nat.le_refl _) _
 have q1 : Blk W1 w.heap.size #[.int .u32 (d : Int)] 130:=by rw [<- hW1]; exact Blk.new w.drew _ _
 have s1 : W1.heap.size = w.heap.size + 1:=by rw [<- hW1,World.size_alloc]; rfl
 have qx1:=qx.below b1 qx.lt
 have qp1:=qp.below b1 qp.lt
 have qc1:=qc.below b1 qc.lt
 refine wpAnyD_on (i:=6) rfl ?_
 go_simp
 refine wpAnyD_on (i:=7) rfl ?_
 refine wp_append_rows (.tmp 10) (.tmp 13) 121 rfl Tryz.underlying121 Tryz.infoU32G (by kernel_rfl) (by decide) (by simp [Act.eval]) (ho.old b1 (Nat.le_refl _)) (b:=w.heap.size) (off:=0) (m:=1) (cap:=1) (ms:=[[.int .u32 (d : Int)]]) (by simp [Act.eval]) rfl (wRows_ok [d]) (fun i r j u hi hj => by
  match i,hi with
  | 0,hi =>
   simp only [List.getElem?_cons_zero,Option.some.injEq] at hi
   subst hi
   match j,hj with
   | 0,hj => cases hj; exact q1.at rfl
   | j + 1,hj => simp at hj
  | i + 1,hi => simp at hi) (by decide) (by simp [wRows,maxLen]; omega) (by simp [wRows]; omega) (by omega) ?_
 intro g1 cap1 w5 hown5 hg5 hat5
 have qc5 : Blk w5 Cb #[.int .u64 c] 81:=qc1.kept hg5 (fun e => hCP e.symm)
 have qx5 : Blk w5 Xb #[.pointer (some ⟨Pb,0,none⟩)] 149:=qx1.kept hg5 (fun e => hXP e.symm)
 have qp5 : Blk w5 Pb #[.slice va l.length vn] 121:=qp1.kept hg5 (fun e => hPP e.symm)
 have hlo : ∀ r,(Value.slice va l.length vn).ownBlock = some r -> base <= r:=fun r e => ho.low e
 have b5 : Below base w w5:=(b1.mono hb).trans (below_grown hg5 hlo (Nat.le_trans hb b1.size))
 have hs5:=hg5.size
 have hgP : g1 ≠ Pb:=fun e => by
  subst e
  obtain ⟨_,h9⟩:=hown5.blk (g:=g1) rfl
  exact absurd (h9.ty_ne qp5) (by decide)
 have hgC : g1 ≠ Cb:=fun e => by
  subst e
  obtain ⟨_,h9⟩:=hown5.blk (g:=g1) rfl
  exact absurd (h9.ty_ne qc5) (by decide)
 have hll : (wRows l).length + 1 = l.length + 1:=by simp [wRows]
 rw [hll] at hown5 ⊢
 have c5:=qp5.one.1
 have f5:=qp5.one.2
 refine ⟨fun _ => ⟨qx5,qp5⟩,?_⟩
 refine wpAnyD_on (i:=8) rfl ?_
 go_simp
 refine wpAnyD_on (i:=9) rfl ?_
 go_simp
 refine wpAnyD_done (by kernel_rfl) ?_ _
 go_simp
 obtain ⟨W6,hW6⟩ : ∃ W6,w5.setCell ⟨Pb,0,none⟩ (.slice (some ⟨g1,0,none⟩) (l.length + 1) cap1) = W6:=⟨_,rfl⟩
 have hg6 : w5.grownBy W6 (some Pb):=by rw [<- hW6]; exact grownBy_setCell _ _ _ _
 have qp6 : Blk W6 Pb #[.slice (some ⟨g1,0,none⟩) (l.length + 1) cap1] 121:=by rw [<- hW6]; exact qp5.set (i:=0) _
 have qx6 : Blk W6 Xb #[.pointer (some ⟨Pb,0,none⟩)] 149:=qx5.kept hg6 (by simpa using hXb)
 have qc6 : Blk W6 Cb #[.int .u64 c] 81:=qc5.kept hg6 (by simpa using hCb)
 have ho6:=hown5.kept hg6 (.inr (by simpa [Value.ownBlock] using hgP))
 rw [hW6]
 have e6:=qc6.one.1
 have f6:=qc6.one.2
 apply (show ∀ (a : Act) (w : World),_ -> _ from by assumption)
 go_upto_region 2 with fail
 go_wp2_with fail
 go_end0
 have hg7 : W6.grownBy (W6.setCell ⟨Cb,0,none⟩ (.int .u64 (cy : Int))) (some Cb):=grownBy_setCell _ _ _ _
 have hs6:=hg6.size
 have hs7:=hg7.size
 have b6 : Below (min base (min Cb Pb)) w W6:=(b5.mono (by omega)).trans (below_grown hg6 (fun r e => by cases e; omega) (by omega))
 refine ⟨rfl,⟨qc6.set (i:=0) _,qx6.kept hg7 (by simpa using hCX.symm),_,qp6.kept hg7 (by simpa using hCb.symm),?_⟩,by omega,b6.trans (below_grown hg7 (fun r e => by cases e; omega) (by omega))⟩
 have h9:=ho6.kept hg7 (.inr (by simpa [Value.ownBlock] using hgC))
 rw [show wRows (l ++ [d]) = wRows l ++ [[.int .u32 (d : Int)]] by simp [wRows]]
 exact h9
theorem make_cap (r : Nat) (hr : r <= 2 ^ 38) (w : World) : (Instr.makeSlice 121 (.int .i64 0) (.int .i64 r)).run Tryz.prog w = .ok (.slice (some ⟨w.heap.size,0,none⟩) 0 r) (w.alloc (.cells (wArr (List.replicate r 0)) 130)):=by
 obtain ⟨i0,hi,hz0,hz1,hz2⟩:=info_parts Tryz.infoU32
 have h:=run_make (P:=Tryz.prog) w 121 130 i0 _ Tryz.underlying121 hi hz0 .i64 .i64 0 r (by omega) (by omega) (by rw [hz2]; omega) (by omega)
 rw [hz1,Int.toNat_natCast] at h
 rw [h]
 have := made_list (.int .u32 0) r
 simp only [Value.cells] at this ⊢
 rw [this]
 simp [wArr]
theorem OwnR.cap0 {base g r : Nat} {W : World} (hq : Blk W g (wArr (List.replicate r 0)) 130) (hb : base <= g) (hr : r <= maxLen) : OwnR 1 130 base W (.slice (some ⟨g,0,none⟩) 0 r) (wRows []) :=
 ⟨⟨rfl,.inr ⟨g,r,_,rfl,hb,hq,Nat.zero_le _,hr,by simp [wArr],by simp [wRows]⟩⟩,RowsOk.nil 1⟩
theorem OwnR.ws {base : Nat} {w : World} {v : Value} {l : List Nat} (h : OwnR 1 130 base w v (wRows l)) (hlt : ∀ d ∈ l,d < WB32) : Ws w.heap.size w v l:=by
 obtain ⟨a,cap,he,h1,h2,h3,h4⟩:=h.rows
 have hl : (wRows l).length = l.length:=by simp [wRows]
 rw [hl] at he h1
 refine ⟨⟨a,cap,he,h1,h2,h3,fun i hi => ?_⟩,hlt⟩
 obtain ⟨b,o,k1,k2,k3⟩:=h4 i (by rw [hl]; exact hi)
 refine ⟨b,o,k1,k2,fun j hj => ?_⟩
 obtain rfl : j = 0:=by omega
 rw [k3 0 (by omega)]
 simp [wRows,hi]
theorem nplus_long (K : Nat) (u v : Value) (la lb : List Nat) (w : World) (hla : Ws K w u la) (hlb : Ws K w v lb) (hK : K <= w.heap.size) (hpq : lb.length <= la.length) (h28 : la.length <= 536870912) :
  Calls Tryz.prog 101 #[u,v] w fun e w' => ∃ v',e = .returned v' /\ Bn w'.heap.size w' v' (bv WB32 la + bv WB32 lb) /\ Below w.heap.size w w' /\ NewV w.heap.size v':=by
 obtain ⟨ua,uc,rfl,hu1,hu2⟩:=hla.form
 obtain ⟨va,vc,rfl,hv1,hv2⟩:=hlb.form
 unfold maxLen at hu2 hv2
 have hca:=hla.cells
 have hcb:=hlb.cells
 obtain ⟨p,hp⟩ : ∃ p,la.length = p:=⟨_,rfl⟩
 obtain ⟨q,hq⟩ : ∃ q,lb.length = q:=⟨_,rfl⟩
 rw [hp,hq] at hpq
 have hdpq : decide (p < q) = false:=by simp; omega
 rw [hp] at h28 hu1 ⊢
 rw [hq] at hv1 ⊢
 obtain ⟨B,hB⟩ : ∃ B,w.heap.size = B:=⟨_,rfl⟩
 rw [hB] at hK ⊢
 obtain ⟨r,hr⟩ : ∃ r,p + 1 = r:=⟨_,rfl⟩
 have hri : (p : Int) + 1 = (r : Int):=by omega
 have hm:=make_cap r (by omega) w
 rw [hB] at hm
 obtain ⟨W1,hW1⟩ : ∃ W1,(w.alloc (.cells (wArr (List.replicate r 0)) 130)).alloc (.cells #[.slice (some ⟨B,0,none⟩) 0 r] 121) = W1:=⟨_,rfl⟩
 have b1 : Below B w W1:=by rw [<- hW1,<- hB]; exact ((Below.refl _ _).alloc (Nat.le_refl _) _).alloc (by simp) _
 have q0 : Blk W1 B (wArr (List.replicate r 0)) 130:=by rw [<- hW1,<- hB]; exact (Blk.new w _ _).alloc _
 have q1 : Blk W1 (B + 1) #[.slice (some ⟨B,0,none⟩) 0 r] 121:=by
  rw [<- hW1]
  have := Blk.new (w.alloc (.cells (wArr (List.replicate r 0)) 130)) #[.slice (some ⟨B,0,none⟩) 0 r] 121
  rwa [World.size_alloc,hB] at this
 have s1 : W1.heap.size = B + 2:=by rw [<- hW1,<- hB]; simp
 have hcol:=collector_any (B + 1) W1
 have HB:=Lib.hid hB
 have HW:=Lib.hid hW1
 have HP:=Lib.hid hp
 have HQ:=Lib.hid hq
 have HCA:=Lib.hid hca
 have HCB:=Lib.hid hcb
 have HCOL:=Lib.hid hcol
 have HQ0:=Lib.hid q0
 have HQ1:=Lib.hid q1
 have HB1:=Lib.hid b1
 have S1:=Lib.hid s1
 clear hla hlb hca hcb hp hq hB hW1 hcol q0 q1 b1 s1
 go_enter Tryz.func101,Tryz.ntmps101
 go_upto_region 4 with fail
 try simp only [HB.out]
 rw [HW.out]
 go_wp2_with fail
 refine HCOL.out.mono ?_
 rintro e w2 ⟨rfl,hw2⟩
 simp only [S1.out,Nat.add_assoc,Nat.reduceAdd]
 have b2' : Below W1.heap.size W1 w2:=by rw [hw2]; exact ((Below.refl _ _).alloc (Nat.le_refl _) _).alloc (by simp) _
 have qx : Blk w2 (B + 2) #[.pointer (some ⟨B + 1,0,none⟩)] 149:=by
  rw [hw2]; have := Blk.new W1 #[.pointer (some ⟨B + 1,0,none⟩)] 149; rw [S1.out] at this; exact this.alloc _
 have qc : Blk w2 (B + 3) #[.int .u64 0] 81:=by
  rw [hw2]; have := Blk.new (W1.alloc (.cells #[.pointer (some ⟨B + 1,0,none⟩)] 149)) #[.int .u64 0] 81
  rw [World.size_alloc,S1.out,Nat.add_assoc] at this; exact this
 have q12:=HQ1.out.below b2' HQ1.out.lt
 have q02:=HQ0.out.below b2' HQ0.out.lt
 have s2 : w2.heap.size = B + 4:=by rw [hw2]; simp [S1.out]
 have HB2 : Hid (Below B w w2):=Lib.hid (HB1.out.trans (b2'.mono (by have := S1.out; omega)))
 have HP0 : Hid (collP B (B + 3) (B + 2) (B + 1) [] 0 w2):=Lib.hid ⟨qc,qx,_,q12,OwnR.cap0 q02 (Nat.le_refl _) (by unfold maxLen; omega)⟩
 have hs2 : B + 4 <= w2.heap.size:=by omega
 clear hw2 qc qx q12 q02 b2' HCOL HQ0 HQ1 s2 hm
 go_wp2_with fail
 go_loopw [24] (fun iv wr => ∃ (i c : Nat) (X : List Nat),i <= p /\ iv = .int .i64 i /\ c <= 1 /\ Hid (X.length = i) /\ Hid (∀ d ∈ X,d < WB32) /\ Hid (bv WB32 X + WB32 ^ i * c = bv WB32 (la.take i) + bv WB32 (lb.take i)) /\ Hid (collP B (B + 3) (B + 2) (B + 1) X c wr) /\ Hid (Below B w wr) /\ B + 4 <= wr.heap.size) (fun iv _ => p - (intOf iv).toNat)
 case atStart => exact ⟨0,0,[],Nat.zero_le _,rfl,by omega,Lib.hid rfl,Lib.hid (fun d h => by cases h),Lib.hid (by simp [bv]),HP0,HB2,hs2⟩
 case round =>
  obtain ⟨i,c,X,hi,rfl,hc1,HXL,HXT,HXV,HCP,HBW,hsz⟩:=hrel
  obtain ⟨wo,rfl⟩ : ∃ wo : World,wo = wr:=⟨_,rfl⟩
  by_cases hlt : i < p
  ·obtain ⟨x,hx⟩ : ∃ x,la[i]? = some x:=⟨_,List.getElem?_eq_getElem (by rw [HP.out]; exact hlt)⟩
   obtain ⟨xb,xo,hxa,hxK,hxc,hx32⟩:=HCA.out i x hx
   obtain ⟨y,hy⟩ : ∃ y,lb[i]?.getD 0 = y:=⟨_,rfl⟩
   have hy32 : y < WB32:=by
    rw [<- hy]
    cases h : lb[i]? with
    | none => decide
    | some d => obtain ⟨_,_,_,_,_,h6⟩:=HCB.out i d h; exact h6
   subst hxa
   have e1 : wo.cell? ⟨xb,xo + i,none⟩ = some (.int .u32 (x : Int)):=(HBW.out.cell (p:=⟨xb,xo + i,none⟩) (by show xb < B; omega)).trans hxc
   obtain ⟨s,hs⟩ : ∃ s,x + y = s:=⟨_,rfl⟩
   have hsi : (x : Int) + (y : Int) = (s : Int):=by omega
   have hw1 : IntKind.u64.wrap (x : Int) = x:=wu64 (by unfold WB32 at *; omega)
   have hw2 : IntKind.u64.wrap (y : Int) = y:=wu64 (by unfold WB32 at *; omega)
   have hw3 : IntKind.u64.wrap (s : Int) = s:=wu64 (by unfold WB32 at *; omega)
   have hcol:=coll_any B (B + 3) (B + 2) (B + 1) X c s wo HCP.out (by omega) (by unfold WB32 at *; omega) (by rw [HXL.out]; omega)
   have HCOL:=Lib.hid hcol
   have HFIN : Hid ((X ++ [(s + c) % 2 ^ 32]).length = i + 1 /\ (∀ d ∈ X ++ [(s + c) % 2 ^ 32],d < WB32) /\ (s + c) / 2 ^ 32 <= 1 /\ bv WB32 (X ++ [(s + c) % 2 ^ 32]) + WB32 ^ (i + 1) * ((s + c) / 2 ^ 32) = bv WB32 (la.take (i + 1)) + bv WB32 (lb.take (i + 1))):=Lib.hid (by
    refine ⟨by rw [List.length_append,HXL.out]; rfl,fun d hd => ?_,by unfold WB32 at *; omega,?_⟩
    ·rcases List.mem_append.1 hd with h | h
     ·exact HXT.out d h
     ·rw [List.mem_singleton.1 h]; unfold WB32; omega
    ·rw [take_getD_bv,take_getD_bv,hy,hx,Option.getD_some]
     exact add_step (b:=WB32) HXL.out HXV.out (by omega))
   have HX:=Lib.hid hx
   have HY:=Lib.hid hy
   clear hx hxc hcol hs HCP
   by_cases hiq : i < q
   ·obtain ⟨y',hy'⟩ : ∃ y',lb[i]? = some y':=⟨_,List.getElem?_eq_getElem (by rw [HQ.out]; exact hiq)⟩
    obtain rfl : y' = y:=by rw [<- HY.out,hy',Option.getD_some]
    obtain ⟨yb,yo,hya,hyK,hyc,_⟩:=HCB.out i y' hy'
    subst hya
    have e2 : wo.cell? ⟨yb,yo + i,none⟩ = some (.int .u32 (y' : Int)):=(HBW.out.cell (p:=⟨yb,yo + i,none⟩) (by show yb < B; omega)).trans hyc
    clear hyc hy'
    go_wp2_with fail
    refine HCOL.out.mono ?_
    rintro e w5 ⟨rfl,hcp,hs5,hb5⟩
    obtain ⟨k1,k2,k3,k4⟩:=HFIN.out
    have HK1:=Lib.hid k1
    have HK2:=Lib.hid k2
    have HK4:=Lib.hid k4
    have HCP5:=Lib.hid hcp
    have HBW5 : Hid (Below B w w5):=Lib.hid (HBW.out.trans (hb5.mono (by omega)))
    clear k1 k2 k4 hcp hb5 HCOL HFIN
    obtain ⟨d,hd⟩ : ∃ d,(s + c) % 2 ^ 32 = d:=⟨_,rfl⟩
    obtain ⟨c',hc'⟩ : ∃ c',(s + c) / 2 ^ 32 = c':=⟨_,rfl⟩
    rw [hd] at HK1 HK2 HK4 HCP5
    rw [hc'] at HK4 HCP5 k3
    clear hd hc'
    go_wp2_with fail
    exact ⟨⟨i + 1,c',X ++ [d],by omega,by go_num,k3,HK1,HK2,HK4,HCP5,HBW5,by omega⟩,by simp [intOf]; omega⟩
   ·obtain rfl : y = 0:=by rw [<- HY.out,List.getElem?_eq_none (by rw [HQ.out]; omega)]; rfl
    have hsx : (x : Int) = (s : Int):=by omega
    obtain rfl : x = s:=by omega
    clear hsx hsi
    go_wp2_with fail
    refine HCOL.out.mono ?_
    rintro e w5 ⟨rfl,hcp,hs5,hb5⟩
    obtain ⟨k1,k2,k3,k4⟩:=HFIN.out
    have HK1:=Lib.hid k1
    have HK2:=Lib.hid k2
    have HK4:=Lib.hid k4
    have HCP5:=Lib.hid hcp
    have HBW5 : Hid (Below B w w5):=Lib.hid (HBW.out.trans (hb5.mono (by omega)))
    clear k1 k2 k4 hcp hb5 HCOL HFIN
    obtain ⟨d,hd⟩ : ∃ d,(x + c) % 2 ^ 32 = d:=⟨_,rfl⟩
    obtain ⟨c',hc'⟩ : ∃ c',(x + c) / 2 ^ 32 = c':=⟨_,rfl⟩
    rw [hd] at HK1 HK2 HK4 HCP5
    rw [hc'] at HK4 HCP5 k3
    clear hd hc'
    go_wp2_with fail
    exact ⟨⟨i + 1,c',X ++ [d],by omega,by go_num,k3,HK1,HK2,HK4,HCP5,HBW5,by omega⟩,by simp [intOf]; omega⟩
  ·obtain rfl : p = i:=by omega
   have hcol:=coll_any B (B + 3) (B + 2) (B + 1) X c 0 wo HCP.out (by omega) (by omega) (by rw [HXL.out]; omega)
   rw [show (0 + c) % 2 ^ 32 = c by omega,show (0 + c) / 2 ^ 32 = 0 by omega] at hcol
   have HCOL:=Lib.hid hcol
   have hfv : bv WB32 (X ++ [c]) = bv WB32 la + bv WB32 lb:=by
    rw [bv_snoc,HXL.out,HXV.out,List.take_of_length_le (by rw [HP.out]; exact Nat.le_refl _),List.take_of_length_le (by rw [HQ.out]; omega)]
   have HFV:=Lib.hid hfv
   have HXC : Hid (∀ d ∈ X ++ [c],d < WB32):=Lib.hid fun d hd => by
    rcases List.mem_append.1 hd with h | h
    ·exact HXT.out d h
    ·rw [List.mem_singleton.1 h]; unfold WB32; omega
   clear hcol hfv HCP
   go_wp2_with fail
   refine HCOL.out.mono ?_
   rintro e w5 ⟨rfl,hcp,hs5,hb5⟩
   obtain ⟨_,_,vv,qv,ho⟩:=hcp
   have hws:=ho.ws HXC.out
   have hlow : ∀ rr,vv.ownBlock = some rr -> B <= rr:=fun rr e => ho.low e
   have HLOW:=Lib.hid hlow
   have hBW5 : Below B w w5:=HBW.out.trans (hb5.mono (by omega))
   have HBW5:=Lib.hid hBW5
   have c4:=qv.one.1
   have ht:=ntrim_bn w5.heap.size vv _ w5 hws
   rw [HFV.out] at ht
   obtain ⟨xa,xc,rfl,_⟩:=hws.form
   have HTT:=Lib.hid ht
   obtain ⟨xn,hxn⟩ : ∃ z,(X ++ [c]).length = z:=⟨_,rfl⟩
   rw [hxn] at HTT c4 HLOW
   clear ht hws hlow hBW5 hb5 HCOL ho qv hxn
   go_wp2_with fail
   refine HTT.out.mono ?_
   rintro e w6 ⟨a6,n6,c6,k6,he,rfl,hbn,rfl⟩
   simp only [Value.slice.injEq] at he
   obtain ⟨rfl,rfl,rfl⟩:=he
   have HBN:=Lib.hid hbn
   have HNV : Hid (NewV B (.slice xa k6 xc)):=Lib.hid (by
    intro b o m c e
    simp only [Value.slice.injEq] at e
    exact HLOW.out b (by rw [e.1]; rfl))
   clear hbn HTT
   go_wp2_with fail
   go_ret
   exact ⟨_,rfl,HBN.out,HBW5.out,HNV.out⟩
theorem nplus_swap (K : Nat) (u v : Value) (la lb : List Nat) (w : World) (hla : Ws K w u la) (hlb : Ws K w v lb) (hK : K <= w.heap.size) (hpq : la.length < lb.length) (h28 : lb.length <= 536870912) :
  Calls Tryz.prog 101 #[u,v] w fun e w' => ∃ v',e = .returned v' /\ Bn w'.heap.size w' v' (bv WB32 lb + bv WB32 la) /\ Below w.heap.size w w' /\ NewV w.heap.size v':=by
 obtain ⟨ua,uc,rfl,hu1,hu2⟩:=hla.form
 obtain ⟨va,vc,rfl,hv1,hv2⟩:=hlb.form
 unfold maxLen at hu2 hv2
 have hca:=hlb.cells
 have hcb:=hla.cells
 obtain ⟨p,hp⟩ : ∃ p,lb.length = p:=⟨_,rfl⟩
 obtain ⟨q,hq⟩ : ∃ q,la.length = q:=⟨_,rfl⟩
 rw [hp,hq] at hpq
 have hdpq : decide (q < p) = true:=by simp; omega
 rw [hp] at h28 hv1 ⊢
 rw [hq] at hu1 ⊢
 obtain ⟨B,hB⟩ : ∃ B,w.heap.size = B:=⟨_,rfl⟩
 rw [hB] at hK ⊢
 obtain ⟨r,hr⟩ : ∃ r,p + 1 = r:=⟨_,rfl⟩
 have hri : (p : Int) + 1 = (r : Int):=by omega
 have hm:=make_cap r (by omega) w
 rw [hB] at hm
 obtain ⟨W1,hW1⟩ : ∃ W1,(w.alloc (.cells (wArr (List.replicate r 0)) 130)).alloc (.cells #[.slice (some ⟨B,0,none⟩) 0 r] 121) = W1:=⟨_,rfl⟩
 have b1 : Below B w W1:=by rw [<- hW1,<- hB]; exact ((Below.refl _ _).alloc (Nat.le_refl _) _).alloc (by simp) _
 have q0 : Blk W1 B (wArr (List.replicate r 0)) 130:=by rw [<- hW1,<- hB]; exact (Blk.new w _ _).alloc _
 have q1 : Blk W1 (B + 1) #[.slice (some ⟨B,0,none⟩) 0 r] 121:=by
  rw [<- hW1]
  have := Blk.new (w.alloc (.cells (wArr (List.replicate r 0)) 130)) #[.slice (some ⟨B,0,none⟩) 0 r] 121
  rwa [World.size_alloc,hB] at this
 have s1 : W1.heap.size = B + 2:=by rw [<- hW1,<- hB]; simp
 have hcol:=collector_any (B + 1) W1
 have HB:=Lib.hid hB
 have HW:=Lib.hid hW1
 have HP:=Lib.hid hp
 have HQ:=Lib.hid hq
 have HCA:=Lib.hid hca
 have HCB:=Lib.hid hcb
 have HCOL:=Lib.hid hcol
 have HQ0:=Lib.hid q0
 have HQ1:=Lib.hid q1
 have HB1:=Lib.hid b1
 have S1:=Lib.hid s1
 clear hla hlb hca hcb hp hq hB hW1 hcol q0 q1 b1 s1
 go_enter Tryz.func101,Tryz.ntmps101
 go_upto_region 4 with fail
 try simp only [HB.out]
 rw [HW.out]
 go_wp2_with fail
 refine HCOL.out.mono ?_
 rintro e w2 ⟨rfl,hw2⟩
 simp only [S1.out,Nat.add_assoc,Nat.reduceAdd]
 have b2' : Below W1.heap.size W1 w2:=by rw [hw2]; exact ((Below.refl _ _).alloc (Nat.le_refl _) _).alloc (by simp) _
 have qx : Blk w2 (B + 2) #[.pointer (some ⟨B + 1,0,none⟩)] 149:=by
  rw [hw2]; have := Blk.new W1 #[.pointer (some ⟨B + 1,0,none⟩)] 149; rw [S1.out] at this; exact this.alloc _
 have qc : Blk w2 (B + 3) #[.int .u64 0] 81:=by
  rw [hw2]; have := Blk.new (W1.alloc (.cells #[.pointer (some ⟨B + 1,0,none⟩)] 149)) #[.int .u64 0] 81
  rw [World.size_alloc,S1.out,Nat.add_assoc] at this; exact this
 have q12:=HQ1.out.below b2' HQ1.out.lt
 have q02:=HQ0.out.below b2' HQ0.out.lt
 have s2 : w2.heap.size = B + 4:=by rw [hw2]; simp [S1.out]
 have HB2 : Hid (Below B w w2):=Lib.hid (HB1.out.trans (b2'.mono (by have := S1.out; omega)))
 have HP0 : Hid (collP B (B + 3) (B + 2) (B + 1) [] 0 w2):=Lib.hid ⟨qc,qx,_,q12,OwnR.cap0 q02 (Nat.le_refl _) (by unfold maxLen; omega)⟩
 have hs2 : B + 4 <= w2.heap.size:=by omega
 clear hw2 qc qx q12 q02 b2' HCOL HQ0 HQ1 s2 hm
 go_wp2_with fail
 go_loopw [24] (fun iv wr => ∃ (i c : Nat) (X : List Nat),i <= p /\ iv = .int .i64 i /\ c <= 1 /\ Hid (X.length = i) /\ Hid (∀ d ∈ X,d < WB32) /\ Hid (bv WB32 X + WB32 ^ i * c = bv WB32 (lb.take i) + bv WB32 (la.take i)) /\ Hid (collP B (B + 3) (B + 2) (B + 1) X c wr) /\ Hid (Below B w wr) /\ B + 4 <= wr.heap.size) (fun iv _ => p - (intOf iv).toNat)
 case atStart => exact ⟨0,0,[],Nat.zero_le _,rfl,by omega,Lib.hid rfl,Lib.hid (fun d h => by cases h),Lib.hid (by simp [bv]),HP0,HB2,hs2⟩
 case round =>
  obtain ⟨i,c,X,hi,rfl,hc1,HXL,HXT,HXV,HCP,HBW,hsz⟩:=hrel
  obtain ⟨wo,rfl⟩ : ∃ wo : World,wo = wr:=⟨_,rfl⟩
  by_cases hlt : i < p
  ·obtain ⟨x,hx⟩ : ∃ x,lb[i]? = some x:=⟨_,List.getElem?_eq_getElem (by rw [HP.out]; exact hlt)⟩
   obtain ⟨xb,xo,hxa,hxK,hxc,hx32⟩:=HCA.out i x hx
   obtain ⟨y,hy⟩ : ∃ y,la[i]?.getD 0 = y:=⟨_,rfl⟩
   have hy32 : y < WB32:=by
    rw [<- hy]
    cases h : la[i]? with
    | none => decide
    | some d => obtain ⟨_,_,_,_,_,h6⟩:=HCB.out i d h; exact h6
   subst hxa
   have e1 : wo.cell? ⟨xb,xo + i,none⟩ = some (.int .u32 (x : Int)):=(HBW.out.cell (p:=⟨xb,xo + i,none⟩) (by show xb < B; omega)).trans hxc
   obtain ⟨s,hs⟩ : ∃ s,x + y = s:=⟨_,rfl⟩
   have hsi : (x : Int) + (y : Int) = (s : Int):=by omega
   have hw1 : IntKind.u64.wrap (x : Int) = x:=wu64 (by unfold WB32 at *; omega)
   have hw2 : IntKind.u64.wrap (y : Int) = y:=wu64 (by unfold WB32 at *; omega)
   have hw3 : IntKind.u64.wrap (s : Int) = s:=wu64 (by unfold WB32 at *; omega)
   have hcol:=coll_any B (B + 3) (B + 2) (B + 1) X c s wo HCP.out (by omega) (by unfold WB32 at *; omega) (by rw [HXL.out]; omega)
   have HCOL:=Lib.hid hcol
   have HFIN : Hid ((X ++ [(s + c) % 2 ^ 32]).length = i + 1 /\ (∀ d ∈ X ++ [(s + c) % 2 ^ 32],d < WB32) /\ (s + c) / 2 ^ 32 <= 1 /\ bv WB32 (X ++ [(s + c) % 2 ^ 32]) + WB32 ^ (i + 1) * ((s + c) / 2 ^ 32) = bv WB32 (lb.take (i + 1)) + bv WB32 (la.take (i + 1))):=Lib.hid (by
    refine ⟨by rw [List.length_append,HXL.out]; rfl,fun d hd => ?_,by unfold WB32 at *; omega,?_⟩
    ·rcases List.mem_append.1 hd with h | h
     ·exact HXT.out d h
     ·rw [List.mem_singleton.1 h]; unfold WB32; omega
    ·rw [take_getD_bv,take_getD_bv,hy,hx,Option.getD_some]
     exact add_step (b:=WB32) HXL.out HXV.out (by omega))
   have HX:=Lib.hid hx
   have HY:=Lib.hid hy
   clear hx hxc hcol hs HCP
   by_cases hiq : i < q
   ·obtain ⟨y',hy'⟩ : ∃ y',la[i]? = some y':=⟨_,List.getElem?_eq_getElem (by rw [HQ.out]; exact hiq)⟩
    obtain rfl : y' = y:=by rw [<- HY.out,hy',Option.getD_some]
    obtain ⟨yb,yo,hya,hyK,hyc,_⟩:=HCB.out i y' hy'
    subst hya
    have e2 : wo.cell? ⟨yb,yo + i,none⟩ = some (.int .u32 (y' : Int)):=(HBW.out.cell (p:=⟨yb,yo + i,none⟩) (by show yb < B; omega)).trans hyc
    clear hyc hy'
    go_wp2_with fail
    refine HCOL.out.mono ?_
    rintro e w5 ⟨rfl,hcp,hs5,hb5⟩
    obtain ⟨k1,k2,k3,k4⟩:=HFIN.out
    have HK1:=Lib.hid k1
    have HK2:=Lib.hid k2
    have HK4:=Lib.hid k4
    have HCP5:=Lib.hid hcp
    have HBW5 : Hid (Below B w w5):=Lib.hid (HBW.out.trans (hb5.mono (by omega)))
    clear k1 k2 k4 hcp hb5 HCOL HFIN
    obtain ⟨d,hd⟩ : ∃ d,(s + c) % 2 ^ 32 = d:=⟨_,rfl⟩
    obtain ⟨c',hc'⟩ : ∃ c',(s + c) / 2 ^ 32 = c':=⟨_,rfl⟩
    rw [hd] at HK1 HK2 HK4 HCP5
    rw [hc'] at HK4 HCP5 k3
    clear hd hc'
    go_wp2_with fail
    exact ⟨⟨i + 1,c',X ++ [d],by omega,by go_num,k3,HK1,HK2,HK4,HCP5,HBW5,by omega⟩,by simp [intOf]; omega⟩
   ·obtain rfl : y = 0:=by rw [<- HY.out,List.getElem?_eq_none (by rw [HQ.out]; omega)]; rfl
    have hsx : (x : Int) = (s : Int):=by omega
    obtain rfl : x = s:=by omega
    clear hsx hsi
    go_wp2_with fail
    refine HCOL.out.mono ?_
    rintro e w5 ⟨rfl,hcp,hs5,hb5⟩
    obtain ⟨k1,k2,k3,k4⟩:=HFIN.out
    have HK1:=Lib.hid k1
    have HK2:=Lib.hid k2
    have HK4:=Lib.hid k4
    have HCP5:=Lib.hid hcp
    have HBW5 : Hid (Below B w w5):=Lib.hid (HBW.out.trans (hb5.mono (by omega)))
    clear k1 k2 k4 hcp hb5 HCOL HFIN
    obtain ⟨d,hd⟩ : ∃ d,(x + c) % 2 ^ 32 = d:=⟨_,rfl⟩
    obtain ⟨c',hc'⟩ : ∃ c',(x + c) / 2 ^ 32 = c':=⟨_,rfl⟩
    rw [hd] at HK1 HK2 HK4 HCP5
    rw [hc'] at HK4 HCP5 k3
    clear hd hc'
    go_wp2_with fail
    exact ⟨⟨i + 1,c',X ++ [d],by omega,by go_num,k3,HK1,HK2,HK4,HCP5,HBW5,by omega⟩,by simp [intOf]; omega⟩
  ·obtain rfl : p = i:=by omega
   have hcol:=coll_any B (B + 3) (B + 2) (B + 1) X c 0 wo HCP.out (by omega) (by omega) (by rw [HXL.out]; omega)
   rw [show (0 + c) % 2 ^ 32 = c by omega,show (0 + c) / 2 ^ 32 = 0 by omega] at hcol
   have HCOL:=Lib.hid hcol
   have hfv : bv WB32 (X ++ [c]) = bv WB32 lb + bv WB32 la:=by
    rw [bv_snoc,HXL.out,HXV.out,List.take_of_length_le (by rw [HP.out]; exact Nat.le_refl _),List.take_of_length_le (by rw [HQ.out]; omega)]
   have HFV:=Lib.hid hfv
   have HXC : Hid (∀ d ∈ X ++ [c],d < WB32):=Lib.hid fun d hd => by
    rcases List.mem_append.1 hd with h | h
    ·exact HXT.out d h
    ·rw [List.mem_singleton.1 h]; unfold WB32; omega
   clear hcol hfv HCP
   go_wp2_with fail
   refine HCOL.out.mono ?_
   rintro e w5 ⟨rfl,hcp,hs5,hb5⟩
   obtain ⟨_,_,vv,qv,ho⟩:=hcp
   have hws:=ho.ws HXC.out
   have hlow : ∀ rr,vv.ownBlock = some rr -> B <= rr:=fun rr e => ho.low e
   have HLOW:=Lib.hid hlow
   have hBW5 : Below B w w5:=HBW.out.trans (hb5.mono (by omega))
   have HBW5:=Lib.hid hBW5
   have c4:=qv.one.1
   have ht:=ntrim_bn w5.heap.size vv _ w5 hws
   rw [HFV.out] at ht
   obtain ⟨xa,xc,rfl,_⟩:=hws.form
   have HTT:=Lib.hid ht
   obtain ⟨xn,hxn⟩ : ∃ z,(X ++ [c]).length = z:=⟨_,rfl⟩
   rw [hxn] at HTT c4 HLOW
   clear ht hws hlow hBW5 hb5 HCOL ho qv hxn
   go_wp2_with fail
   refine HTT.out.mono ?_
   rintro e w6 ⟨a6,n6,c6,k6,he,rfl,hbn,rfl⟩
   simp only [Value.slice.injEq] at he
   obtain ⟨rfl,rfl,rfl⟩:=he
   have HBN:=Lib.hid hbn
   have HNV : Hid (NewV B (.slice xa k6 xc)):=Lib.hid (by
    intro b o m c e
    simp only [Value.slice.injEq] at e
    exact HLOW.out b (by rw [e.1]; rfl))
   clear hbn HTT
   go_wp2_with fail
   go_ret
   exact ⟨_,rfl,HBN.out,HBW5.out,HNV.out⟩
theorem nplus_any (K : Nat) (u v : Value) (m n : Nat) (w : World) (hu : Bn K w u m) (hv : Bn K w v n) (hK : K <= w.heap.size) (hm : m < WB32 ^ 536870912) (hn : n < WB32 ^ 536870912) :
  Calls Tryz.prog 101 #[u,v] w fun e w' => ∃ v',e = .returned v' /\ Bn w'.heap.size w' v' (m + n) /\ Below w.heap.size w w' /\ NewV w.heap.size v':=by
 obtain ⟨la,hla,tla,rfl⟩:=hu
 obtain ⟨lb,hlb,tlb,rfl⟩:=hv
 by_cases h : la.length < lb.length
 ·rw [Nat.add_comm]; exact nplus_swap K u v la lb w hla hlb hK h (tight_len tlb hn)
 ·exact nplus_long K u v la lb w hla hlb hK (by omega) (tight_len tla hm)
end Go.Proofs.YtlldjmagbjjeoaaGreat
