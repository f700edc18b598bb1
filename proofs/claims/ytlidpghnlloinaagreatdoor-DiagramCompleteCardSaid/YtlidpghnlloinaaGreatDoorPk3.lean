/- Contracts and plain laws, several texts in one (ORow, GColl, GLong, GGcd, GWhole, GWhole2, GAdd). No conditions beyond those stated. -/
import Derived.Deep.Upon
import Derived.Great.BuildSlice
import Derived.Test.YtlidpghnlloinaaGreatDoorPk2
set_option maxRecDepth 100000
set_option maxHeartbeats 40000000
namespace Go.Proofs.YtlidpghnlloinaaGreatDoor
open Go.RowKit
set_option linter.unusedVariables false
theorem addr_add (b o q : Nat) : (Addr.add ⟨b,o,none⟩ q) = ⟨b,o + q,none⟩:=by
 rw [Addr.add]
 by_cases h0 : q = 0
 ·subst h0; simp
 ·simp [h0]
def RowsOk (c : Nat) (rs : List (List Value)) : Prop:=∀ r ∈ rs,r.length = c /\ ∀ u ∈ r,u.oneCell' = true
theorem RowsOk.append {c : Nat} {rs ms : List (List Value)} (h : RowsOk c rs) (h' : RowsOk c ms) : RowsOk c (rs ++ ms):=fun r hr => by
 rcases List.mem_append.1 hr with hr | hr
 ·exact h r hr
 ·exact h' r hr
theorem RowsOk.nil (c : Nat) : RowsOk c []:=fun r hr => by simp at hr
theorem RowsOk.one {c : Nat} {r : List Value} (h : r.length = c) (h1 : ∀ u ∈ r,u.oneCell' = true) : RowsOk c [r]:=fun r' hr => by
 rw [List.mem_singleton.1 hr]; exact ⟨h,h1⟩
theorem flat_length {c : Nat} {rs : List (List Value)} (h : RowsOk c rs) : rs.flatten.length = rs.length * c:=by
 induction rs with
 | nil => simp
 | cons r t ih =>
  rw [List.flatten_cons,List.length_append,ih fun x hx => h x (List.mem_cons_of_mem _ hx),(h r (by simp)).1,List.length_cons,Nat.succ_mul]
  omega
theorem flat_at {c : Nat} {rs : List (List Value)} (h : RowsOk c rs) {i j : Nat} {r : List Value} (hi : rs[i]? = some r) (hj : j < c) : rs.flatten[i * c + j]? = r[j]? := by
 induction rs generalizing i with
 | nil => simp at hi
 | cons x t ih =>
  have hx:=(h x (by simp)).1
  cases i with
  | zero =>
   simp only [List.getElem?_cons_zero,Option.some.injEq] at hi
   subst hi
   rw [List.flatten_cons,Nat.zero_mul,Nat.zero_add,List.getElem?_append_left (by omega)]
  | succ i =>
   rw [List.flatten_cons,List.getElem?_append_right (by rw [hx,Nat.succ_mul]; omega),hx,show (i + 1) * c + j - c = i * c + j by rw [Nat.succ_mul]; omega]
   exact ih (fun r hr => h r (List.mem_cons_of_mem _ hr)) (by simpa using hi)
theorem flat_split {c k i : Nat} {rs : List (List Value)} {u : Value} (h : RowsOk c rs) (hc : 0 < c) (hk : rs.flatten[k]? = some u) : ∃ i j r,k = i * c + j /\ j < c /\ rs[i]? = some r /\ r[j]? = some u:=by
 have hkl:=(List.getElem?_eq_some_iff.1 hk).1
 rw [flat_length h] at hkl
 have h1 : k / c < rs.length:=Nat.div_lt_of_lt_mul (by rw [Nat.mul_comm]; exact hkl)
 have h2 : k = k / c * c + k % c:=by rw [Nat.mul_comm]; exact (Nat.div_add_mod k c).symm
 refine ⟨k / c,k % c,_,h2,Nat.mod_lt _ hc,List.getElem?_eq_getElem h1,?_⟩
 rw [<- flat_at h (List.getElem?_eq_getElem h1) (Nat.mod_lt _ hc),<- h2]
 exact hk
def OwnR (c T base : Nat) (w : World) (v : Value) (rs : List (List Value)) : Prop:=w.ownsRow base T c v rs.length rs.flatten /\ RowsOk c rs
theorem OwnR.nil (c T base : Nat) (w : World) : OwnR c T base w (.slice none 0 0) []:=⟨World.ownsRow_nil w base T c,RowsOk.nil c⟩
section
variable {c T base : Nat} {w w' : World} {v : Value} {rs : List (List Value)}
theorem OwnR.old {B : Nat} (h : OwnR c T base w v rs) (hb : Below B w w') (hB : w.heap.size <= B) : OwnR c T base w' v rs:=⟨ownsRow_old h.1 hb hB,h.2⟩
theorem OwnR.kept {row : Option Nat} (h : OwnR c T base w v rs) (hg : w.grownBy w' row) (hne : v.ownBlock = none \/ v.ownBlock ≠ row) : OwnR c T base w' v rs:=⟨World.ownsRow.kept h.1 hg hne,h.2⟩
theorem OwnR.mono {base' : Nat} (h : OwnR c T base w v rs) (hb : base' <= base) : OwnR c T base' w v rs:=⟨ownsRow_mono h.1 hb,h.2⟩
theorem OwnR.form (h : OwnR c T base w v rs) : ∃ a n,v = .slice a rs.length n /\ rs.length <= n /\ n <= maxLen:=ownsRow_form h.1
theorem OwnR.low (h : OwnR c T base w v rs) {r : Nat} (hr : v.ownBlock = some r) : base <= r:=(ownsRow_cells h.1 hr).1
theorem OwnR.lt (h : OwnR c T base w v rs) {r : Nat} (hr : v.ownBlock = some r) : r < w.heap.size:=ownsRow_lt h.1 hr
theorem OwnR.rows (h : OwnR c T base w v rs) : RowsV c (fun i j => ((rs[i]?.getD [])[j]?).getD undef) w.heap.size w v rs.length:=by
 rcases h.1.2 with ⟨rfl,h0⟩ | ⟨g,cap,cur,rfl,hb,hg,hn,hm,hs,ht⟩
 ·have hr : rs = []:=List.eq_nil_of_length_eq_zero h0
  subst hr
  exact RowsV.nil none 0 (Nat.zero_le _) (fun _ => rfl)
 ·refine RowsV.mk_cells hn hm (Array.getElem?_eq_some_iff.1 hg).1 fun i hi j hj => ?_
  have h1:=flat_at h.2 (List.getElem?_eq_getElem hi) hj
  have hl : (rs[i]).length = c:=(h.2 _ (List.getElem_mem hi)).1
  rw [List.getElem?_eq_getElem (show j < (rs[i]).length by omega)] at h1
  have := World.ownsRow.cells h.1 (g:=g) rfl (i * c + j) _ h1
  rw [List.getElem?_eq_getElem hi,Option.getD_some,List.getElem?_eq_getElem (show j < (rs[i]).length by omega),Option.getD_some]
  rw [Addr.add] at this
  by_cases h0 : i * c + j = 0
  ·rw [h0] at this ⊢; simpa using this
  ·rw [if_neg h0] at this; simpa using this
theorem OwnR.lit {W : World} {b : Nat} {cs : Array Value} (hq : Blk W b cs T) (hb : base <= b) (hok : RowsOk c rs) (hcs : cs.toList = rs.flatten) (hm : rs.length <= maxLen) : OwnR c T base W (.slice (some ⟨b,0,none⟩) rs.length rs.length) rs:=by
 have hsz : cs.size = rs.length * c:=by rw [<- Array.length_toList,hcs,flat_length hok]
 refine ⟨⟨flat_length hok,.inr ⟨b,rs.length,cs,rfl,hb,hq,Nat.le_refl _,hm,hsz,?_⟩⟩,hok⟩
 rw [<- hcs,List.take_of_length_le (by rw [Array.length_toList,hsz]; exact Nat.le_refl _)]
theorem Blk.ty_ne {W : World} {b t t' : Nat} {cs cs' : Array Value} (h : Blk W b cs t) (h' : Blk W b cs' t') : t = t':=by
 unfold Blk at h h'
 rw [h] at h'
 simp only [Option.some.injEq,Obj.cells.injEq] at h'
 exact h'.2.1
theorem OwnR.blk {g : Nat} (h : OwnR c T base w v rs) (hg : v.ownBlock = some g) : ∃ cur,Blk w g cur T:=by
 rcases h.1.2 with ⟨rfl,_⟩ | ⟨g',cap',cur,rfl,_,hb,_⟩
 ·cases hg
 ·obtain rfl : g' = g:=by simpa [Value.ownBlock] using hg
  exact ⟨cur,hb⟩
theorem rows_apart {c' T' base' : Nat} {rs' : List (List Value)} {v' : Value} {g : Nat} (h : OwnR c T base w v rs) (h' : OwnR c' T' base' w v' rs') (hT : T ≠ T') (hg : v.ownBlock = some g) : v'.ownBlock ≠ some g:=fun e => by
 obtain ⟨_,h1⟩:=h.blk hg
 obtain ⟨_,h2⟩:=h'.blk e
 exact hT (h1.ty_ne h2)
theorem wp_append_rows {o : Oper} {a : Act} {K : Act -> World -> Prop} {Q : Exit -> Act -> World -> Prop} (s x : Operand) (t : TypeId)
  (ho : o.op = .call { callee:=.builtin .append,args:=#[s,x],argTypes:=#[t,t] }) (ht : Tryz.prog.underlying t = some (.slice T)) {zero : Value} {bytes : Nat}
  (hi : (Tryz.prog.info? T).map (fun i => (i.zero,i.size,i.bytes)) = some (some zero,c,bytes)) (hzs : zero.cells.size = c) (hc : 0 < c)
  (hs : a.eval s = v) (hown : OwnR c T base w v rs) {b off m cap : Nat} {ms : List (List Value)} (hx : a.eval x = .slice (some ⟨b,off,none⟩) m cap) (hms : ms.length = m) (hok : RowsOk c ms)
  (hcell : ∀ i r j u,ms[i]? = some r -> r[j]? = some u -> w.cell? ⟨b,off + (i * c + j),none⟩ = some u) (hm : 0 < m) (h63 : rs.length + m <= maxLen) (hby : (rs.length + m) * bytes <= 140737488355328) (hbase : base <= w.heap.size)
  (h : ∀ g cap w',OwnR c T base w' (.slice (some ⟨g,0,none⟩) (rs.length + m) cap) (rs ++ ms) -> w.grownBy w' v.ownBlock -> (v.ownBlock = some g \/ g = w.heap.size) -> K (a.put o.dst (.slice (some ⟨g,0,none⟩) (rs.length + m) cap)) w') : o.wp Tryz.prog a w K Q:=by
 obtain ⟨i0,hi,hz0,hz1,hz2⟩:=info_parts hi
 refine wp_append_lies w s x t ho base T i0 zero c bytes ht hi hz0 hz1 hz2 hzs hc v rs.length rs.flatten hs hown.1 ⟨b,off,none⟩ m cap ms.flatten hx (by rw [flat_length hok,hms])
  (fun k u hk => by
   obtain ⟨i,j,r,rfl,hj,hr,hu⟩:=flat_split (i:=0) hok hc hk
   have := hcell i r j u hr hu
   rw [addr_add]; exact this)
  (fun u hu => by obtain ⟨r,hr,hur⟩:=List.mem_flatten.1 hu; exact (hok r hr).2 u hur) hm h63 hby hbase _ rfl fun g cap w' h1 h2 h3 h4 => h g cap w' ⟨?_,hown.2.append hok⟩ h2 h3
 rw [List.length_append,List.flatten_append,hms]
 exact h1
theorem wpList_append_rows {ops : Array Oper} {rest : List Oper} {o : Oper} {a : Act} {Q : Exit -> Act -> World -> Prop} (hgd : o.guard = none) (s x : Operand) (t : TypeId)
  (ho : o.op = .call { callee:=.builtin .append,args:=#[s,x],argTypes:=#[t,t] }) (ht : Tryz.prog.underlying t = some (.slice T)) {zero : Value} {bytes : Nat}
  (hi : (Tryz.prog.info? T).map (fun i => (i.zero,i.size,i.bytes)) = some (some zero,c,bytes)) (hzs : zero.cells.size = c) (hc : 0 < c)
  (hs : a.eval s = v) (hown : OwnR c T base w v rs) {b off m cap : Nat} {ms : List (List Value)} (hx : a.eval x = .slice (some ⟨b,off,none⟩) m cap) (hms : ms.length = m) (hok : RowsOk c ms)
  (hcell : ∀ i r j u,ms[i]? = some r -> r[j]? = some u -> w.cell? ⟨b,off + (i * c + j),none⟩ = some u) (hm : 0 < m) (h63 : rs.length + m <= maxLen) (hby : (rs.length + m) * bytes <= 140737488355328) (hbase : base <= w.heap.size)
  (h : ∀ g cap w',OwnR c T base w' (.slice (some ⟨g,0,none⟩) (rs.length + m) cap) (rs ++ ms) -> w.grownBy w' v.ownBlock -> (v.ownBlock = some g \/ g = w.heap.size) -> wpList Tryz.prog ops Q rest (a.put o.dst (.slice (some ⟨g,0,none⟩) (rs.length + m) cap)) w') : wpList Tryz.prog ops Q (o :: rest) a w :=
 wpList_plain hgd fun _ hK => wp_append_rows s x t ho ht hi hzs hc hs hown hx hms hok hcell hm h63 hby hbase fun g cap w' h1 h2 h3 => hK _ _ (h g cap w' h1 h2 h3)
end
def wRows (l : List Nat) : List (List Value):=l.map fun x : Nat => [.int .u32 (x : Int)]
attribute [local go_sem] Oper.semAt_some
theorem down_any (v : Value) (w : World) (hv : v.oneCell' = true) : Calls Tryz.prog 273 #[v] w fun e w' => e = .returned (.func (.func 278) #[] #[.pointer (some ⟨w.heap.size,0,none⟩)]) /\ w.alloc (.cells #[v] 234) = w':=by
 cases v <;> simp [Value.oneCell'] at hv
 all_goals
  go_enter Tryz.func273,Tryz.ntmps273
  go_wp2_with fail
  go_ret
  exact ⟨rfl,rfl⟩
def oneL (n : Nat) : List Nat:=if n = 0 then [] else [n]
theorem down_iter (K L : Nat) (v : Value) (n : Nat) :
  IterSt (α:=Nat) Tryz.prog 278 (fun i => #[] ++ #[.func (.yield i) #[] #[]] ++ #[.pointer (some ⟨L,0,none⟩)]) (fun x => #[.int .u32 x]) (fun pre x W => pre = [] /\ x = n) (fun A B => A.grownBy B none) (fun _ _ => True)
   (fun xs W => xs = oneL n) (fun _ _ => True) (fun W => Blk W L #[v] 234 /\ Wd .u32 K W v n):=by
 rintro m i J Jx W ⟨hb,hv⟩ hJ hJx hY h0
 have c0 : W.cell? ⟨L,0,none⟩ = some v:=hb.at rfl
 refine callsIn_of_wp Tryz.func278 rfl trivial ?_
 simp only [Tryz.ntmps278,List.size_toArray,List.length_cons,List.length_nil,Nat.reduceAdd,Nat.reduceSub,Array.replicate_succ,Array.replicate_zero,List.push_toArray,List.append_toArray,List.nil_append,List.cons_append]
 rcases hv with ⟨rfl,a,c,rfl,hc⟩ | ⟨hn0,b,o,c,rfl,h1,hc,hbk,h5⟩
 ·gi_wp2_with fail
  refine wpIn_loop_rounds 1 ?_
  rw [roundsIn_succ]
  gi_wp2_with fail
  go_end0
  exact ⟨⟨_,rfl⟩,.inl ⟨[],rfl,h0⟩⟩
 ·have hn1 : oneL n = [n]:=by unfold oneL; rw [if_neg (by omega)]
  rw [hn1]
  obtain ⟨fn,tmps,assign,body,hy,hR⟩:=hY [] n W h0 ⟨rfl,rfl⟩
  clear hY hn1
  gi_wp2_with fail
  refine wpIn_loop_rounds 2 ?_
  rw [roundsIn_succ]
  gi_wp2_with fail
  refine ⟨wide_depth,hR.mono ?_⟩
  clear hR hy
  rintro e' W3 (⟨rfl,hj3,hk3⟩ | ⟨rfl,hj3,hk3⟩)
  ·gi_wp2_with fail
   rw [roundsIn_succ]
   gi_wp2_with fail
   go_end0
   exact ⟨⟨_,rfl⟩,.inl ⟨[n],rfl,hj3⟩⟩
  ·gi_wp2_with fail
   refine bodyPost_ret (results_none rfl _ _ _) rfl ?_
   exact ⟨⟨_,rfl⟩,.inr ⟨_,trivial,hj3⟩⟩
def LongI (B0 : Nat) (w : World) (n : Nat) (pre : List Nat) (W : World) : Prop :=
 Blk W B0 #[.int .u64 (if pre = [] then 0 else n)] 183 /\ Below B0 w W /\ B0 + 1 <= W.heap.size
theorem LongI.kept {B0 : Nat} {w W W' : World} {n : Nat} {pre : List Nat} {row : Option Nat} (h : LongI B0 w n pre W) (hg : W.grownBy W' row) (hr : ∀ k,row = some k -> B0 + 1 <= k) : LongI B0 w n pre W':=by
 obtain ⟨h1,h2,h3⟩:=h
 exact ⟨h1.kept hg (fun e => by have := hr _ e.symm; omega),h2.trans (below_grown hg (fun k e => by have := hr k e; omega) (by omega)),Nat.le_trans h3 hg.size⟩
theorem long_any (K : Nat) (v : Value) (n : Nat) (w : World) (h : Wd .u32 K w v n) (hK : K <= w.heap.size) (hn : n < 65536) :
  Calls Tryz.prog 260 #[v] w fun e w' => e = .returned (.int .u64 n) /\ Below w.heap.size w w':=by
 obtain ⟨va,vn,vc,rfl⟩:=h.form
 obtain ⟨B0,hB0⟩ : ∃ B0,w.heap.size = B0:=⟨_,rfl⟩
 obtain ⟨W2,hW2⟩ : ∃ W2,(w.alloc (.cells #[.int .u64 0] 183)).alloc (.cells #[.slice va vn vc] 234) = W2:=⟨_,rfl⟩
 have hb2 : Below B0 w W2:=by rw [<- hW2,<- hB0]; exact ((Below.refl _ w).alloc (Nat.le_refl _) _).alloc (by simp) _
 have q0 : Blk W2 B0 #[.int .u64 0] 183:=by rw [<- hW2,<- hB0]; exact (Blk.new w _ _).alloc _
 have q1 : Blk W2 (B0 + 1) #[.slice va vn vc] 234:=by
  rw [<- hW2,<- hB0]
  have := Blk.new (w.alloc (.cells #[.int .u64 0] 183)) #[.slice va vn vc] 234
  rwa [World.size_alloc] at this
 have s2 : W2.heap.size = B0 + 2:=by rw [<- hW2,<- hB0]; simp
 have HB:=Lib.hid hB0
 have HW:=Lib.hid hW2
 rw [hB0] at hK ⊢
 clear hB0 hW2
 refine callsIn_wide.1 (callsIn_of_wp_marks (n:=5) Tryz.func260 rfl trivial ?_)
 simp only [Tryz.ntmps260,List.size_toArray,List.length_cons,List.length_nil,Nat.reduceAdd,Nat.reduceSub,Array.replicate_succ,Array.replicate_zero,List.push_toArray,List.append_toArray,List.nil_append,List.cons_append]
 gi_wp2_with fail
 refine ⟨trivial,callsIn_wide.2 ((down_any _ _ rfl).mono ?_)⟩
 rintro en w' ⟨rfl,rfl⟩
 gi_wp2_with fail
 simp only [HB.out]
 rw [HW.out]
 refine range_law (gf:=278) (fi:=#[]) (lb:=#[.pointer (some ⟨B0 + 1,0,none⟩)]) rfl (enters_of Tryz.func278 (by kernel_rfl) rfl) (down_iter K (B0 + 1) (.slice va vn vc) n) (fun _ => rfl)
  (fun pre W => LongI B0 w n pre W) (fun _ _ _ => False)
  (fun pre x a1 W => LongI B0 w n pre W /\ pre = [] /\ x = n ∧
   a1 = { tmps:=#[.slice va vn vc,undef,.int .u64 0,.pointer (some ⟨B0,0,none⟩),.int .u32 n,.slice va vn vc,.func (.func 278) #[] #[.pointer (some ⟨B0 + 1,0,none⟩)],.int .u32 n,undef,undef,undef,undef,undef,undef],defers:=[] })
  ?hSt ?hI ?hIx ?hA ?hS ?hSp ?hISt ?hIxSt ?hKt ?hKb ?h0 ?hPre ?hassign ?hbody ?hdone ?hstop
 case hSt => exact fun A B _ hg => KeepsFrom.of_grownBy hg (fun j e => by cases e)
 case hI => exact fun s W l o o' hi hle hl ho => hi.kept (grownBy_putObj' W l o') (fun k e => by cases e; omega)
 case hIx => exact fun c s W l o o' hi _ _ _ => hi
 case hA =>
  rintro s y a1 W l o o' ⟨hi,hx1,hx2,ha⟩ hle hl ho
  exact ⟨hi.kept (grownBy_putObj' W l o') (fun k e => by cases e; omega),hx1,hx2,ha⟩
 case hS => exact fun s W l o o' h _ _ _ => h
 case hSp => exact fun s W l o o' h _ _ _ => h
 case hISt => exact fun s A B hi hg => hi.kept hg (fun k e => by cases e)
 case hIxSt => exact fun c s A B hi _ => hi
 case hKt => exact fun A B C _ _ => trivial
 case hKb => exact fun W l o o' _ _ _ => trivial
 case h0 =>
  intro o o'
  exact ⟨(q0.alloc _).alloc _,(hb2.alloc (by omega) o).alloc (by simp; omega) o',by simp; omega⟩
 case hPre =>
  intro o o'
  exact ⟨(q1.alloc _).alloc _,h.below ((hb2.alloc (by omega) o).alloc (by simp; omega) o') hK (Nat.le_refl _)⟩
 case hstop => exact fun D c pre W _ _ hi _ => hi.elim
 case hassign =>
  rintro i pre y W hi ⟨rfl,rfl⟩ hlt
  gi_wp2
  exact ⟨KeepsFrom.refl _ _,trivial,hi,by trivial,by trivial,by first | trivial | rfl⟩
 case hbody =>
  rintro i pre y a1 W ⟨hi,rfl,rfl,rfl⟩
  obtain ⟨g1,g2,g3⟩:=hi
  obtain ⟨c0,c1⟩:=g1.one
  have hbits : bits BinOp.or IntKind.u64 0 (y : Int) = y:=by have := u64_or_nat 0 y (by decide) (by omega); simpa using this
  gi_wp2_with fail
  exact ⟨KeepsFrom.of_grownBy (grownBy_setCell W B0 0 _) (fun j e => by simp at e; omega),trivial,g1.set (i:=0) (.int .u64 y),g2.setCell (p:=⟨B0,0,none⟩) (Nat.le_refl _) _,by have := (grownBy_setCell W B0 0 (.int .u64 y)).size; omega⟩
 case hdone =>
  rintro D xs W hD rfl hi hdef
  obtain ⟨g1,g2,g3⟩:=hi
  have c0 : W.cell? ⟨B0,0,none⟩ = some (.int .u64 n):=by
   rw [(g1.one).1]
   unfold oneL
   by_cases h0 : n = 0
   ·subst h0; rfl
   ·simp [h0]
  gi_wp2_with fail
  refine ⟨by simp,.inl ⟨_,_,rfl,run_takeDeferred hdef,?_⟩⟩
  exact ⟨_,results_tmp rfl _ _ _,rfl,g2.trans (below_grown (grownBy_putObj' W D (.deferred none)) (fun r e => by cases e; omega) (by omega))⟩
theorem common_any (K : Nat) (u v : Value) (m n : Nat) (w : World) (hu : Wd .u32 K w u m) (hv : Wd .u32 K w v n) (hK : K <= w.heap.size) (hm : m < 65536) (hn : n < 65536) :
  Calls Tryz.prog 243 #[u,v] w fun e w' => ∃ v',e = .returned v' /\ Wd .u32 w'.heap.size w' v' (Nat.gcd m n) /\ Below w.heap.size w w':=by
 have hcmp:=compare_any K u v m n w hu hv
 have hl1 : ∀ W,Below w.heap.size w W -> Calls Tryz.prog 260 #[u] W fun e w' => e = .returned (.int .u64 m) /\ Below W.heap.size W w':=fun W hb => long_any W.heap.size u m W (hu.below hb hK (Nat.le_trans hK hb.size)) (Nat.le_refl _) hm
 have hl2 : ∀ W,Below w.heap.size w W -> Calls Tryz.prog 260 #[v] W fun e w' => e = .returned (.int .u64 n) /\ Below W.heap.size W w':=fun W hb => long_any W.heap.size v n W (hv.below hb hK (Nat.le_trans hK hb.size)) (Nat.le_refl _) hn
 by_cases hlt : m < n
 ·have e1 : (if m < n then (-1 : Int) else if n < m then 1 else 0) = -1:=by rw [if_pos hlt]
  rw [e1] at hcmp
  clear e1
  go_enter Tryz.func243,Tryz.ntmps243
  go_wp2_with fail
  refine hcmp.mono ?_
  rintro e w1 ⟨rfl,kk,rfl⟩
  by_cases hs0 : m = 0
  ·have hl0 : Hid (Wd .u32 K w v (Nat.gcd m n)):=Lib.hid (by rw [Nat.gcd_comm m n,hs0,Nat.gcd_zero_right]; exact hv)
   rcases hu with ⟨_,sa,sc,rfl,_⟩ | ⟨h0,_⟩
   ·obtain ⟨ba,bm,bc,hbf⟩:=hl0.out.form
    subst hbf
    go_wp2_with fail
    refine wp_loop_rounds 1 ?_
    rw [rounds_succ]
    go_wp2_with fail
    go_ret
    exact ⟨_,rfl,hl0.out.below (below_drewN2 (Below.refl w.heap.size w) _) hK hK,below_drewN2 (Below.refl _ w) _⟩
   ·omega
  ·have hbl:=hv
   have hq1:=hl2
   have hq2:=hl1
   rcases hu with ⟨h0,_⟩ | ⟨h0,sb,so,sc,rfl,hs1,hs2,hs3,hs4⟩
   ·omega
   rcases hv with ⟨h0',_⟩ | ⟨h0',bb,bo,bc,rfl,hb1,hb2,hb3,hb4⟩
   ·omega
   go_wp2_with fail
   refine wp_loop_rounds 1 ?_
   rw [rounds_succ]
   go_wp2_with fail
   refine (hq1 _ (below_drewN2 (Below.refl _ w) _)).mono ?_
   rintro e w2 ⟨rfl,hw2⟩
   have hw2' : Below w.heap.size w w2:=(below_drewN2 (Below.refl _ w) _).trans hw2
   go_wp2_with fail
   refine (hq2 _ hw2').mono ?_
   rintro e w3 ⟨rfl,hw3⟩
   have hw3' : Below w.heap.size w w3:=hw2'.trans (hw3.mono hw2'.size)
   have HG : Hid (Nat.gcd n m = Nat.gcd m n):=Lib.hid (Nat.gcd_comm m n).symm
   clear hq1 hq2 hcmp hl1 hl2 hs4 hb4 hbl
   go_wp2_with fail
   go_loopw [10,11] (fun x y wr => ∃ (a b q : Nat),x = .int .u64 a /\ y = .int .u64 b /\ Hid (Nat.gcd a b = Nat.gcd m n) /\ a < 65536 /\ b < 65536 /\ wr = w3.drewN q) (fun _ y _ => (intOf y).toNat)
   case atStart => exact ⟨_,_,0,rfl,rfl,by first | exact HG | exact Lib.hid rfl,by omega,by omega,rfl⟩
   case round =>
    obtain ⟨a,b,q,rfl,rfl,HAB,ha,hb,rfl⟩:=hrel
    by_cases hb0 : b = 0
    ·subst hb0
     have hfin : Hid (a = Nat.gcd m n):=Lib.hid (by rw [<- HAB.out,Nat.gcd_zero_right])
     have hsh:=short_any a (w3.drewN q) ha
     go_wp2_with fail
     refine hsh.mono ?_
     rintro e w4 ⟨v',rfl,hv',hb4⟩
     go_wp2_with fail
     go_ret
     exact ⟨_,rfl,by rw [<- hfin.out]; exact hv',hw3'.trans ((below_drewN2 (Below.refl _ _) _).trans hb4 |>.mono hw3'.size)⟩
    ·have hx : ((b : Int) != 0) = true:=by simp; omega
     have hy : ((b : Int) == 0) = false:=by simp; omega
     have hrem : Hid (Nat.gcd b (a % b) = Nat.gcd m n):=Lib.hid (by rw [<- HAB.out,Nat.gcd_comm a b,Nat.gcd_rec b a,Nat.gcd_comm])
     have hmod : a % b < b:=Nat.mod_lt _ (by omega)
     have htm : Int.tmod (a : Int) (b : Int) = ((a % b : Nat) : Int):=by rw [Int.tmod_eq_emod_of_nonneg (by omega)]; simp
     have hem : (a : Int) % (b : Int) = ((a % b : Nat) : Int):=by simp
     obtain ⟨r,hr⟩ : ∃ r,a % b = r:=⟨_,rfl⟩
     rw [hr] at hrem hmod htm hem
     clear hr
     go_upto_region 18 with fail
     go_quiet (fail)
     go_wp2_with fail
     exact ⟨⟨b,r,_,rfl,rfl,hrem,by omega,by omega,drewN_two _ _ _⟩,by simp [intOf]; omega⟩
 ·obtain ⟨cv,hcv⟩ : ∃ cv : Int,(if m < n then (-1 : Int) else if n < m then 1 else 0) = cv:=⟨_,rfl⟩
  have hcv0 : ¬ cv < 0:=by rw [<- hcv,if_neg hlt]; split <;> omega
  rw [hcv] at hcmp
  clear hcv
  go_enter Tryz.func243,Tryz.ntmps243
  go_wp2_with fail
  refine hcmp.mono ?_
  rintro e w1 ⟨rfl,kk,rfl⟩
  by_cases hs0 : n = 0
  ·have hl0 : Hid (Wd .u32 K w u (Nat.gcd m n)):=Lib.hid (by rw [(rfl : Nat.gcd m n = Nat.gcd m n),hs0,Nat.gcd_zero_right]; exact hu)
   rcases hv with ⟨_,sa,sc,rfl,_⟩ | ⟨h0,_⟩
   ·obtain ⟨ba,bm,bc,hbf⟩:=hl0.out.form
    subst hbf
    go_wp2_with fail
    refine wp_loop_rounds 1 ?_
    rw [rounds_succ]
    go_wp2_with fail
    go_ret
    exact ⟨_,rfl,hl0.out.below (below_drewN2 (Below.refl w.heap.size w) _) hK hK,below_drewN2 (Below.refl _ w) _⟩
   ·omega
  ·have hbl:=hu
   have hq1:=hl1
   have hq2:=hl2
   rcases hv with ⟨h0,_⟩ | ⟨h0,sb,so,sc,rfl,hs1,hs2,hs3,hs4⟩
   ·omega
   rcases hu with ⟨h0',_⟩ | ⟨h0',bb,bo,bc,rfl,hb1,hb2,hb3,hb4⟩
   ·omega
   go_wp2_with fail
   refine wp_loop_rounds 1 ?_
   rw [rounds_succ]
   go_wp2_with fail
   refine (hq1 _ (below_drewN2 (Below.refl _ w) _)).mono ?_
   rintro e w2 ⟨rfl,hw2⟩
   have hw2' : Below w.heap.size w w2:=(below_drewN2 (Below.refl _ w) _).trans hw2
   go_wp2_with fail
   refine (hq2 _ hw2').mono ?_
   rintro e w3 ⟨rfl,hw3⟩
   have hw3' : Below w.heap.size w w3:=hw2'.trans (hw3.mono hw2'.size)
   have HG : Hid (Nat.gcd m n = Nat.gcd m n):=Lib.hid ((rfl : Nat.gcd m n = Nat.gcd m n)).symm
   clear hq1 hq2 hcmp hl1 hl2 hs4 hb4 hbl
   go_wp2_with fail
   go_loopw [10,11] (fun x y wr => ∃ (a b q : Nat),x = .int .u64 a /\ y = .int .u64 b /\ Hid (Nat.gcd a b = Nat.gcd m n) /\ a < 65536 /\ b < 65536 /\ wr = w3.drewN q) (fun _ y _ => (intOf y).toNat)
   case atStart => exact ⟨_,_,0,rfl,rfl,by first | exact HG | exact Lib.hid rfl,by omega,by omega,rfl⟩
   case round =>
    obtain ⟨a,b,q,rfl,rfl,HAB,ha,hb,rfl⟩:=hrel
    by_cases hb0 : b = 0
    ·subst hb0
     have hfin : Hid (a = Nat.gcd m n):=Lib.hid (by rw [<- HAB.out,Nat.gcd_zero_right])
     have hsh:=short_any a (w3.drewN q) ha
     go_wp2_with fail
     refine hsh.mono ?_
     rintro e w4 ⟨v',rfl,hv',hb4⟩
     go_wp2_with fail
     go_ret
     exact ⟨_,rfl,by rw [<- hfin.out]; exact hv',hw3'.trans ((below_drewN2 (Below.refl _ _) _).trans hb4 |>.mono hw3'.size)⟩
    ·have hx : ((b : Int) != 0) = true:=by simp; omega
     have hy : ((b : Int) == 0) = false:=by simp; omega
     have hrem : Hid (Nat.gcd b (a % b) = Nat.gcd m n):=Lib.hid (by rw [<- HAB.out,Nat.gcd_comm a b,Nat.gcd_rec b a,Nat.gcd_comm])
     have hmod : a % b < b:=Nat.mod_lt _ (by omega)
     have htm : Int.tmod (a : Int) (b : Int) = ((a % b : Nat) : Int):=by rw [Int.tmod_eq_emod_of_nonneg (by omega)]; simp
     have hem : (a : Int) % (b : Int) = ((a % b : Nat) : Int):=by simp
     obtain ⟨r,hr⟩ : ∃ r,a % b = r:=⟨_,rfl⟩
     rw [hr] at hrem hmod htm hem
     clear hr
     go_upto_region 18 with fail
     go_quiet (fail)
     go_wp2_with fail
     exact ⟨⟨b,r,_,rfl,rfl,hrem,by omega,by omega,drewN_two _ _ _⟩,by simp [intOf]; omega⟩
abbrev Wv (v : Value) : Value:=.agg #[.bool false,v]
theorem wvalid_any (K : Nat) (v : Value) (n : Nat) (w : World) (h : Wd .u16 K w v n) (hK : K <= w.heap.size) : Calls Tryz.prog 198 #[Wv v] w fun e w' => e = .returned (.bool true) /\ Below w.heap.size w w':=by
 rcases h with ⟨rfl,a,c,rfl,hc⟩ | ⟨h0,b,o,c,rfl,h1,hc,hb,h5⟩
 ·go_enter Tryz.func198,Tryz.ntmps198
  go_wp2_with fail
  go_ret
  exact ⟨rfl,(Below.refl _ w).alloc (Nat.le_refl _) _⟩
 ·have hlt : b < w.heap.size:=by omega
  have hne : ¬ b = w.heap.size:=by omega
  have hx : ((n : Int) != 0) = true:=by simp; omega
  go_enter Tryz.func198,Tryz.ntmps198
  go_wp2_with fail
  go_ret
  exact ⟨rfl,(Below.refl _ w).alloc (Nat.le_refl _) _⟩
theorem wallvalid_any (K b : Nat) (u v : Value) (m n : Nat) (w : World) (hu : Wd .u16 K w u m) (hv : Wd .u16 K w v n) (hK : K <= w.heap.size) (hq : Blk w b #[.bool false,u,.bool false,v] 43) :
  Calls Tryz.prog 214 #[.slice (some ⟨b,0,none⟩) 2 2] w fun e w' => e = .returned (.bool true) /\ Below w.heap.size w w':=by
 obtain ⟨ua,um,uc,rfl⟩:=hu.form
 obtain ⟨va,vm,vc,rfl⟩:=hv.form
 have hb:=hq.lt
 obtain ⟨q0,q1,q2,q3⟩:=hq.four
 have hne : ¬ b = w.heap.size:=by omega
 go_enter Tryz.func214,Tryz.ntmps214
 go_wp2_with fail
 refine wp_loop_rounds 3 ?_
 rw [rounds_succ]
 go_wp2_with fail
 have b1 : Below w.heap.size w (w.alloc (.cells #[.bool false,.slice ua um uc] 43)):=(Below.refl _ _).alloc (Nat.le_refl _) _
 refine (wvalid_any _ _ m _ (hu.below b1 hK (Nat.le_refl _)) (by simp; omega)).mono ?_
 rintro e w2 ⟨rfl,hb2⟩
 have hw2 : Below w.heap.size w w2:=b1.trans (hb2.mono (by simp))
 obtain ⟨r0,r1,r2,r3⟩:=(hq.below hw2 hb).four
 have hb2 : b < w2.heap.size:=Nat.lt_of_lt_of_le hb hw2.size
 have hne2 : ¬ b = w2.heap.size:=by omega
 go_wp2_with fail
 rw [rounds_succ]
 go_wp2_with fail
 have b3 : Below w.heap.size w (w2.alloc (.cells #[.bool false,.slice va vm vc] 43)):=hw2.alloc hw2.size _
 refine (wvalid_any _ _ n _ (hv.below b3 hK (Nat.le_refl _)) (by simp; have := hw2.size; omega)).mono ?_
 rintro e w4 ⟨rfl,hb4⟩
 go_wp2_with fail
 rw [rounds_succ]
 go_wp2_with fail
 go_ret
 exact ⟨rfl,b3.trans (hb4.mono (by simp; have := hw2.size; omega))⟩
theorem wresult_any (K : Nat) (v : Value) (n : Nat) (w : World) (h : Wd .u32 K w v n) (hK : K <= w.heap.size) (hn : n < 65536) :
  Calls Tryz.prog 240 #[.bool false,v] w fun e w' => ∃ v',e = .returned (.tuple #[Wv v',.int .i64 0]) /\ Wd .u16 w'.heap.size w' v' n /\ Below w.heap.size w w' /\ NewV w.heap.size v':=by
 have b1 : Below w.heap.size w (w.alloc (.cells #[.bool false,.slice none 0 0] 43)):=(Below.refl _ _).alloc (Nat.le_refl _) _
 have hu:=unpack_any K v n _ (h.pre.below b1 hK (Nat.le_refl _)) (by simp; omega) hn
 have q1 : Blk (w.alloc (.cells #[.bool false,.slice none 0 0] 43)) w.heap.size #[.bool false,.slice none 0 0] 43:=Blk.new w _ _
 go_enter Tryz.func240,Tryz.ntmps240
 go_wp2_with fail
 refine hu.mono ?_
 rintro e w2 ⟨v',rfl,hv',hb2,hnw⟩
 have hb2' : Below w.heap.size w w2:=b1.trans (hb2.mono (by simp))
 have q2:=q1.below hb2 q1.lt
 obtain ⟨d0,d1⟩:=q2.two
 have f0:=q2.free 0
 have f1:=q2.free 1
 have hlt:=q2.lt
 have hne : ¬ w.heap.size = w2.heap.size:=by omega
 obtain ⟨a,m,c,hf⟩:=hv'.form
 have hm : m <= 1:=by
  rcases hv' with ⟨_,a',c',e,_⟩ | ⟨_,b',o',c',e,_⟩
  ·rw [hf] at e; simp at e; omega
  ·rw [hf] at e; simp at e; omega
 subst hf
 have hmm : decide ((1024 : Int) < (m : Int)) = false:=by simp; omega
 clear hu
 go_wp2_with fail
 have q3:=((q2.set (i:=0) (.bool false)).set (i:=1) (.slice a m c)).alloc (.cells #[.bool false,.slice a m c] 43)
 obtain ⟨e0,e1⟩:=q3.two
 refine bodyPost_ret (v:=.tuple #[Wv (.slice a m c),.int .i64 0]) (by simp [results,Tryz.results240,go_sem,e0,e1]) rfl ?_
 have b3:=(((Below.refl w.heap.size w2).setCell (p:=⟨w.heap.size,0,none⟩) (Nat.le_refl _) (.bool false)).setCell (p:=⟨w.heap.size,1,none⟩) (Nat.le_refl _) (.slice a m c)).alloc (by simp [World.setCell]; omega) (.cells #[.bool false,.slice a m c] 43)
 have ws:=((hv'.set (r:=w.heap.size) (i:=0) (x:=.bool false) hnw (by simp)).set (r:=w.heap.size) (i:=1) (x:=.slice a m c) hnw (by simp))
 exact ⟨_,rfl,ws.below ((Below.refl _ _).alloc (Nat.le_refl _) _) (by simp [World.setCell]) (by simp [World.setCell]),hb2'.trans b3,hnw.mono (by simp)⟩
theorem alloc4 (w : World) (c0 c1 c2 c3 : Array Value) (t0 t1 t2 t3 : TypeId) {W : World} (h : (((w.alloc (.cells c0 t0)).alloc (.cells c1 t1)).alloc (.cells c2 t2)).alloc (.cells c3 t3) = W) :
  Below w.heap.size w W /\ Blk W w.heap.size c0 t0 /\ Blk W (w.heap.size + 1) c1 t1 /\ Blk W (w.heap.size + 2) c2 t2 /\ Blk W (w.heap.size + 3) c3 t3 /\ W.heap.size = w.heap.size + 4:=by
 subst h
 have q1:=Blk.new (w.alloc (.cells c0 t0)) c1 t1
 have q2:=Blk.new ((w.alloc (.cells c0 t0)).alloc (.cells c1 t1)) c2 t2
 have q3:=Blk.new (((w.alloc (.cells c0 t0)).alloc (.cells c1 t1)).alloc (.cells c2 t2)) c3 t3
 simp only [World.size_alloc] at q1 q2 q3
 exact ⟨((((Below.refl _ w).alloc (Nat.le_refl _) _).alloc (by simp) _).alloc (by simp; omega) _).alloc (by simp; omega) _,(((Blk.new w c0 t0).alloc _).alloc _).alloc _,(q1.alloc _).alloc _,q2.alloc _,q3,by simp⟩
theorem alloc3 (w : World) (c0 c1 c2 : Array Value) (t0 t1 t2 : TypeId) {W : World} (h : ((w.alloc (.cells c0 t0)).alloc (.cells c1 t1)).alloc (.cells c2 t2) = W) :
  Below w.heap.size w W /\ Blk W w.heap.size c0 t0 /\ Blk W (w.heap.size + 1) c1 t1 /\ Blk W (w.heap.size + 2) c2 t2 /\ W.heap.size = w.heap.size + 3:=by
 subst h
 have q1:=Blk.new (w.alloc (.cells c0 t0)) c1 t1
 have q2:=Blk.new ((w.alloc (.cells c0 t0)).alloc (.cells c1 t1)) c2 t2
 simp only [World.size_alloc] at q1 q2
 exact ⟨(((Below.refl _ w).alloc (Nat.le_refl _) _).alloc (by simp) _).alloc (by simp; omega) _,((Blk.new w c0 t0).alloc _).alloc _,q1.alloc _,q2,by simp⟩
theorem wmul_any (K : Nat) (u v : Value) (m n : Nat) (w : World) (hu : Wd .u16 K w u m) (hv : Wd .u16 K w v n) (hK : K <= w.heap.size) (hmn : m * n < 65536) (hm : m < 65536) (hn : n < 65536) :
  Calls Tryz.prog 213 #[Wv u,Wv v] w fun e w' => ∃ v',e = .returned (.tuple #[Wv v',.int .i64 0]) /\ Wd .u16 w'.heap.size w' v' (m * n) /\ Below w.heap.size w w' /\ NewV w.heap.size v':=by
 obtain ⟨ua,um,uc,rfl⟩:=hu.form
 obtain ⟨va,vm,vc,rfl⟩:=hv.form
 obtain ⟨W1,hW1⟩ : ∃ W1,(((w.alloc (.cells #[.bool false,.slice ua um uc] 43)).alloc (.cells #[.bool false,.slice va vm vc] 43)).alloc (.cells #[.bool false,.slice none 0 0] 43)).alloc (.cells #[.bool false,.slice ua um uc,.bool false,.slice va vm vc] 43) = W1:=⟨_,rfl⟩
 obtain ⟨b1,q0,q1,q2,q3,s1⟩:=alloc4 w _ _ _ _ _ _ _ _ hW1
 have HW:=Lib.hid hW1
 obtain ⟨B,hB⟩ : ∃ B,w.heap.size = B:=⟨_,rfl⟩
 have HB:=Lib.hid hB
 rw [hB] at hK b1 q0 q1 q2 q3 s1 ⊢
 clear hB hW1
 go_enter Tryz.func213,Tryz.ntmps213
 go_wp2_with fail
 simp only [HB.out,Nat.add_assoc,Nat.reduceAdd]
 rw [HW.out]
 refine (wallvalid_any B (B + 3) _ _ m n W1 (hu.below b1 hK hK) (hv.below b1 hK hK) (by omega) q3).mono ?_
 rintro e w2 ⟨rfl,hb2⟩
 have b2 : Below B w w2:=b1.trans (hb2.mono (by omega))
 have hs2:=hb2.size
 have q0:=q0.below hb2 q0.lt
 have q1:=q1.below hb2 q1.lt
 have q2:=q2.below hb2 q2.lt
 have hu2:=hu.below b2 hK (show K <= w2.heap.size by omega)
 have hv2:=hv.below b2 hK (show K <= w2.heap.size by omega)
 have hu3 : Wd .u16 w2.heap.size w2 (.slice ua um uc) m:=hu2.below (Below.refl w2.heap.size _) (by omega) (by omega)
 have hv3 : Wd .u16 w2.heap.size w2 (.slice va vm vc) n:=hv2.below (Below.refl w2.heap.size _) (by omega) (by omega)
 obtain ⟨d0,d1⟩:=q0.two
 obtain ⟨d2,d3⟩:=q1.two
 go_upto_region 3 with fail
 clear d0 d1 d2 d3
 refine region_plain (fun W' => Below w2.heap.size w2 W') [15,16] (by kernel_rfl) ?_
 have qS : (fun W' => Below w2.heap.size w2 W') w2.drew:=below_quiet (Below.refl _ _)
 refine wpAnyD_tp (i:=0) (v:=.pointer (some ⟨B,0,none⟩)) rfl qS ?_
 refine wpAnyD_tk (i:=1) (v:=.bool false) rfl (.inl ⟨by kernel_rfl,fun W' hS => by have d0:=(q0.below hS q0.lt).at (i:=0) rfl; go_simp⟩) qS ?_
 refine wpAnyD_tp (i:=2) (v:=.pointer (some ⟨B + 1,0,none⟩)) rfl qS ?_
 refine wpAnyD_tk (i:=3) (v:=.bool false) rfl (.inl ⟨by kernel_rfl,fun W' hS => by have d0:=(q1.below hS q1.lt).at (i:=0) rfl; go_simp⟩) qS ?_
 refine wpAnyD_tp (i:=4) (v:=.bool false) rfl qS ?_
 refine wpAnyD_tp (i:=5) (v:=.pointer (some ⟨B,1,none⟩)) rfl qS ?_
 refine wpAnyD_tk (i:=6) (v:=.slice ua um uc) rfl (.inl ⟨by kernel_rfl,fun W' hS => by have d0:=(q0.below hS q0.lt).at (i:=1) rfl; go_simp⟩) qS ?_
 refine wpAnyD_tp (i:=8) (v:=.pointer (some ⟨B + 1,1,none⟩)) rfl qS ?_
 refine wpAnyD_tk (i:=9) (v:=.slice va vm vc) rfl (.inl ⟨by kernel_rfl,fun W' hS => by have d0:=(q1.below hS q1.lt).at (i:=1) rfl; go_simp⟩) qS ?_
 refine wpAnyD_one (i:=7) (by kernel_rfl) rfl (by kernel_rfl) ?_
 go_simp
 refine (pack_any w2.heap.size _ m _ (hu3.below qS (Nat.le_refl _) (Nat.le_refl _)) qS.size hm).mono ?_
 rintro e w3 ⟨p3,rfl,hp3,hb3⟩
 have qS3 : Below w2.heap.size w2 w3:=qS.trans (hb3.mono qS.size)
 obtain ⟨a3,m3,c3,rfl⟩:=hp3.form
 go_simp
 refine wpAnyD_one (i:=10) (by kernel_rfl) rfl (by kernel_rfl) ?_
 go_simp
 refine (pack_any w2.heap.size _ n _ (hv3.below qS3 (Nat.le_refl _) (Nat.le_refl _)) qS3.size hn).mono ?_
 rintro e w4 ⟨p4,rfl,hp4,hb4⟩
 have qS4 : Below w2.heap.size w2 w4:=qS3.trans (hb4.mono qS3.size)
 obtain ⟨a4,m4,c4,rfl⟩:=hp4.form
 go_simp
 refine wpAnyD_one (i:=11) (by kernel_rfl) rfl (by kernel_rfl) ?_
 go_simp
 refine (times_any w4.heap.size _ _ m n _ (hp3.below hb4 (Nat.le_refl _) hb4.size) hp4 (Nat.le_refl _) hmn hm hn).mono ?_
 rintro e w5 ⟨p5,rfl,hp5,hb5⟩
 have qS5 : Below w2.heap.size w2 w5:=qS4.trans (hb5.mono qS4.size)
 obtain ⟨a5,m5,c5,rfl⟩:=hp5.form
 go_simp
 refine wpAnyD_one (i:=12) (by kernel_rfl) rfl (by kernel_rfl) ?_
 go_simp
 refine (wresult_any w5.heap.size _ (m * n) _ hp5 (Nat.le_refl _) hmn).mono ?_
 rintro e w6 ⟨p6,rfl,hp6,hb6,hnw⟩
 have qS6 : Below w2.heap.size w2 w6:=qS5.trans (hb6.mono qS5.size)
 obtain ⟨a6,m6,c6,rfl⟩:=hp6.form
 go_simp
 refine wpAnyD_tp (i:=13) (v:=Wv (.slice a6 m6 c6)) rfl qS6 ?_
 refine wpAnyD_tp (i:=14) (v:=.int .i64 0) rfl qS6 ?_
 have q2s:=q2.below qS6 q2.lt
 obtain ⟨e0,e1⟩:=q2s.two
 have f0:=q2s.free 0
 have f1:=q2s.free 1
 refine wpAnyD_one (i:=15) (by kernel_rfl) rfl (by kernel_rfl) ?_
 go_simp
 refine wpAnyD_one (i:=16) (by kernel_rfl) rfl (by kernel_rfl) ?_
 go_simp
 refine wpAnyD_done (by kernel_rfl) ?_ _
 go_wp2_with fail
 have q3s:=(q2s.set (i:=0) (.bool false)).set (i:=1) (.slice a6 m6 c6)
 obtain ⟨e0,e1⟩:=q3s.two
 refine bodyPost_ret (v:=.tuple #[Wv (.slice a6 m6 c6),.int .i64 0]) (by simp [results,Tryz.results213,go_sem,e0,e1]) rfl ?_
 have hBn : B + 2 < w5.heap.size:=by have := qS5.size; omega
 have ws:=((hp6.set (r:=B + 2) (i:=0) (x:=.bool false) hnw hBn).set (r:=B + 2) (i:=1) (x:=.slice a6 m6 c6) hnw hBn)
 have b6 : Below B w w6:=b2.trans (qS6.mono (by omega))
 exact ⟨_,rfl,ws.below (Below.refl w6.heap.size _) (Nat.le_refl _) (by simp [World.setCell]),(b6.setCell (p:=⟨B + 2,0,none⟩) (by simp) _).setCell (p:=⟨B + 2,1,none⟩) (by simp) _,hnw.mono (by omega)⟩
theorem wgcd_any (K : Nat) (u v : Value) (m n : Nat) (w : World) (hu : Wd .u16 K w u m) (hv : Wd .u16 K w v n) (hK : K <= w.heap.size) (hm : m < 65536) (hn : n < 65536) :
  Calls Tryz.prog 220 #[Wv u,Wv v] w fun e w' => ∃ v',e = .returned (.tuple #[Wv v',.int .i64 0]) /\ Wd .u16 w'.heap.size w' v' (Nat.gcd m n) /\ Below w.heap.size w w' /\ NewV w.heap.size v':=by
 have hg : Nat.gcd m n < 65536:=by
  by_cases h0 : m = 0
  ·subst h0; simpa using hn
  ·have := Nat.gcd_le_left n (show 0 < m by omega); omega
 obtain ⟨ua,um,uc,rfl⟩:=hu.form
 obtain ⟨va,vm,vc,rfl⟩:=hv.form
 obtain ⟨W1,hW1⟩ : ∃ W1,(((w.alloc (.cells #[.bool false,.slice ua um uc] 43)).alloc (.cells #[.bool false,.slice va vm vc] 43)).alloc (.cells #[.bool false,.slice none 0 0] 43)).alloc (.cells #[.bool false,.slice ua um uc,.bool false,.slice va vm vc] 43) = W1:=⟨_,rfl⟩
 obtain ⟨b1,q0,q1,q2,q3,s1⟩:=alloc4 w _ _ _ _ _ _ _ _ hW1
 have HW:=Lib.hid hW1
 obtain ⟨B,hB⟩ : ∃ B,w.heap.size = B:=⟨_,rfl⟩
 have HB:=Lib.hid hB
 rw [hB] at hK b1 q0 q1 q2 q3 s1 ⊢
 clear hB hW1
 go_enter Tryz.func220,Tryz.ntmps220
 go_wp2_with fail
 simp only [HB.out,Nat.add_assoc,Nat.reduceAdd]
 rw [HW.out]
 refine (wallvalid_any B (B + 3) _ _ m n W1 (hu.below b1 hK hK) (hv.below b1 hK hK) (by omega) q3).mono ?_
 rintro e w2 ⟨rfl,hb2⟩
 have b2 : Below B w w2:=b1.trans (hb2.mono (by omega))
 have hs2:=hb2.size
 have q0:=q0.below hb2 q0.lt
 have q1:=q1.below hb2 q1.lt
 have q2:=q2.below hb2 q2.lt
 have hu2:=hu.below b2 hK (show K <= w2.heap.size by omega)
 have hv2:=hv.below b2 hK (show K <= w2.heap.size by omega)
 have hu3 : Wd .u16 w2.heap.size w2 (.slice ua um uc) m:=hu2.below (Below.refl w2.heap.size _) (by omega) (by omega)
 have hv3 : Wd .u16 w2.heap.size w2 (.slice va vm vc) n:=hv2.below (Below.refl w2.heap.size _) (by omega) (by omega)
 obtain ⟨d0,d1⟩:=q0.two
 obtain ⟨d2,d3⟩:=q1.two
 go_upto_region 3 with fail
 clear d0 d1 d2 d3
 refine region_plain (fun W' => Below w2.heap.size w2 W') [8,9] (by kernel_rfl) ?_
 have qS : (fun W' => Below w2.heap.size w2 W') w2.drew:=below_quiet (Below.refl _ _)
 refine wpAnyD_tp (i:=0) (v:=.pointer (some ⟨B,1,none⟩)) rfl qS ?_
 refine wpAnyD_tk (i:=1) (v:=.slice ua um uc) rfl (.inl ⟨by kernel_rfl,fun W' hS => by have d0:=(q0.below hS q0.lt).at (i:=1) rfl; go_simp⟩) qS ?_
 refine wpAnyD_tp (i:=3) (v:=.pointer (some ⟨B + 1,1,none⟩)) rfl qS ?_
 refine wpAnyD_tk (i:=4) (v:=.slice va vm vc) rfl (.inl ⟨by kernel_rfl,fun W' hS => by have d0:=(q1.below hS q1.lt).at (i:=1) rfl; go_simp⟩) qS ?_
 refine wpAnyD_one (i:=2) (by kernel_rfl) rfl (by kernel_rfl) ?_
 go_simp
 refine (pack_any w2.heap.size _ m _ (hu3.below qS (Nat.le_refl _) (Nat.le_refl _)) qS.size hm).mono ?_
 rintro e w3 ⟨p3,rfl,hp3,hb3⟩
 have qS3 : Below w2.heap.size w2 w3:=qS.trans (hb3.mono qS.size)
 obtain ⟨a3,m3,c3,rfl⟩:=hp3.form
 go_simp
 refine wpAnyD_one (i:=5) (by kernel_rfl) rfl (by kernel_rfl) ?_
 go_simp
 refine (pack_any w2.heap.size _ n _ (hv3.below qS3 (Nat.le_refl _) (Nat.le_refl _)) qS3.size hn).mono ?_
 rintro e w4 ⟨p4,rfl,hp4,hb4⟩
 have qS4 : Below w2.heap.size w2 w4:=qS3.trans (hb4.mono qS3.size)
 obtain ⟨a4,m4,c4,rfl⟩:=hp4.form
 go_simp
 refine wpAnyD_one (i:=6) (by kernel_rfl) rfl (by kernel_rfl) ?_
 go_simp
 refine (common_any w4.heap.size _ _ m n _ (hp3.below hb4 (Nat.le_refl _) hb4.size) hp4 (Nat.le_refl _) hm hn).mono ?_
 rintro e w5 ⟨p5,rfl,hp5,hb5⟩
 have qS5 : Below w2.heap.size w2 w5:=qS4.trans (hb5.mono qS4.size)
 obtain ⟨a5,m5,c5,rfl⟩:=hp5.form
 go_simp
 refine wpAnyD_one (i:=7) (by kernel_rfl) rfl (by kernel_rfl) ?_
 go_simp
 refine (unpack_any w5.heap.size _ _ _ hp5.pre (Nat.le_refl _) hg).mono ?_
 rintro e w6 ⟨p6,rfl,hp6,hb6,hnw⟩
 have qS6 : Below w2.heap.size w2 w6:=qS5.trans (hb6.mono qS5.size)
 obtain ⟨a6,m6,c6,rfl⟩:=hp6.form
 go_simp
 have q2s:=q2.below qS6 q2.lt
 obtain ⟨e0,e1⟩:=q2s.two
 have f0:=q2s.free 0
 have f1:=q2s.free 1
 refine wpAnyD_one (i:=8) (by kernel_rfl) rfl (by kernel_rfl) ?_
 go_simp
 refine wpAnyD_one (i:=9) (by kernel_rfl) rfl (by kernel_rfl) ?_
 go_simp
 refine wpAnyD_done (by kernel_rfl) ?_ _
 go_wp2_with fail
 have q3s:=(q2s.set (i:=0) (.bool false)).set (i:=1) (.slice a6 m6 c6)
 obtain ⟨e0,e1⟩:=q3s.two
 refine bodyPost_ret (v:=.tuple #[Wv (.slice a6 m6 c6),.int .i64 0]) (by simp [results,Tryz.results220,go_sem,e0,e1]) rfl ?_
 have hBn : B + 2 < w5.heap.size:=by have := qS5.size; omega
 have ws:=((hp6.set (r:=B + 2) (i:=0) (x:=.bool false) hnw hBn).set (r:=B + 2) (i:=1) (x:=.slice a6 m6 c6) hnw hBn)
 have b6 : Below B w w6:=b2.trans (qS6.mono (by omega))
 exact ⟨_,rfl,ws.below (Below.refl w6.heap.size _) (Nat.le_refl _) (by simp [World.setCell]),(b6.setCell (p:=⟨B + 2,0,none⟩) (by simp) _).setCell (p:=⟨B + 2,1,none⟩) (by simp) _,hnw.mono (by omega)⟩
theorem wcmp_any (K : Nat) (u v : Value) (m n : Nat) (w : World) (hu : Wd .u16 K w u m) (hv : Wd .u16 K w v n) (hK : K <= w.heap.size) (hm : m < 65536) (hn : n < 65536) :
  Calls Tryz.prog 191 #[Wv u,Wv v] w fun e w' => e = .returned (.int .i64 (if m < n then -1 else if n < m then 1 else 0)) /\ Below w.heap.size w w':=by
 obtain ⟨cv,hcv⟩ : ∃ cv : Int,(if m < n then (-1 : Int) else if n < m then 1 else 0) = cv:=⟨_,rfl⟩
 have HCV:=Lib.hid hcv
 rw [hcv]
 clear hcv
 obtain ⟨ua,um,uc,rfl⟩:=hu.form
 obtain ⟨va,vm,vc,rfl⟩:=hv.form
 obtain ⟨W1,hW1⟩ : ∃ W1,((w.alloc (.cells #[.bool false,.slice ua um uc] 43)).alloc (.cells #[.bool false,.slice va vm vc] 43)).alloc (.cells #[.bool false,.slice ua um uc,.bool false,.slice va vm vc] 43) = W1:=⟨_,rfl⟩
 obtain ⟨b1,q0,q1,q2,s1⟩:=alloc3 w _ _ _ _ _ _ hW1
 have HW:=Lib.hid hW1
 obtain ⟨B,hB⟩ : ∃ B,w.heap.size = B:=⟨_,rfl⟩
 have HB:=Lib.hid hB
 rw [hB] at hK b1 q0 q1 q2 s1 ⊢
 clear hB hW1
 go_enter Tryz.func191,Tryz.ntmps191
 go_wp2_with fail
 simp only [HB.out,Nat.add_assoc,Nat.reduceAdd]
 rw [HW.out]
 refine (wallvalid_any B (B + 2) _ _ m n W1 (hu.below b1 hK hK) (hv.below b1 hK hK) (by omega) q2).mono ?_
 rintro e w2 ⟨rfl,hb2⟩
 have b2 : Below B w w2:=b1.trans (hb2.mono (by omega))
 have hs2:=hb2.size
 have q0:=q0.below hb2 q0.lt
 have q1:=q1.below hb2 q1.lt
 have hu2:=hu.below b2 hK (show K <= w2.heap.size by omega)
 have hv2:=hv.below b2 hK (show K <= w2.heap.size by omega)
 have hu3 : Wd .u16 w2.heap.size w2 (.slice ua um uc) m:=hu2.below (Below.refl w2.heap.size _) (by omega) (by omega)
 have hv3 : Wd .u16 w2.heap.size w2 (.slice va vm vc) n:=hv2.below (Below.refl w2.heap.size _) (by omega) (by omega)
 obtain ⟨d0,d1⟩:=q0.two
 obtain ⟨d2,d3⟩:=q1.two
 go_upto_region 7 with fail
 clear d0 d1 d2 d3
 refine region_plain (fun W' => Below w2.heap.size w2 W') [] (by kernel_rfl) ?_
 have qS : (fun W' => Below w2.heap.size w2 W') w2.drew:=below_quiet (Below.refl _ _)
 refine wpAnyD_tp (i:=0) (v:=.pointer (some ⟨B,1,none⟩)) rfl qS ?_
 refine wpAnyD_tk (i:=1) (v:=.slice ua um uc) rfl (.inl ⟨by kernel_rfl,fun W' hS => by have d0:=(q0.below hS q0.lt).at (i:=1) rfl; go_simp⟩) qS ?_
 refine wpAnyD_tp (i:=3) (v:=.pointer (some ⟨B + 1,1,none⟩)) rfl qS ?_
 refine wpAnyD_tk (i:=4) (v:=.slice va vm vc) rfl (.inl ⟨by kernel_rfl,fun W' hS => by have d0:=(q1.below hS q1.lt).at (i:=1) rfl; go_simp⟩) qS ?_
 refine wpAnyD_one (i:=2) (by kernel_rfl) rfl (by kernel_rfl) ?_
 go_simp
 refine (pack_any w2.heap.size _ m _ (hu3.below qS (Nat.le_refl _) (Nat.le_refl _)) qS.size hm).mono ?_
 rintro e w3 ⟨p3,rfl,hp3,hb3⟩
 have qS3 : Below w2.heap.size w2 w3:=qS.trans (hb3.mono qS.size)
 obtain ⟨a3,m3,c3,rfl⟩:=hp3.form
 go_simp
 refine wpAnyD_one (i:=5) (by kernel_rfl) rfl (by kernel_rfl) ?_
 go_simp
 refine (pack_any w2.heap.size _ n _ (hv3.below qS3 (Nat.le_refl _) (Nat.le_refl _)) qS3.size hn).mono ?_
 rintro e w4 ⟨p4,rfl,hp4,hb4⟩
 have qS4 : Below w2.heap.size w2 w4:=qS3.trans (hb4.mono qS3.size)
 obtain ⟨a4,m4,c4,rfl⟩:=hp4.form
 go_simp
 refine wpAnyD_one (i:=6) (by kernel_rfl) rfl (by kernel_rfl) ?_
 go_simp
 have hc:=compare_any w4.heap.size _ _ m n _ (hp3.below hb4 (Nat.le_refl _) hb4.size) hp4
 rw [HCV.out] at hc
 refine hc.mono ?_
 rintro e w5 ⟨rfl,k5,rfl⟩
 have qS5 : Below w2.heap.size w2 (w4.drewN k5):=below_drewN2 qS4 _
 have q05:=(q0.below qS5 q0.lt).two.1
 go_simp
 refine wpAnyD_one (i:=7) (by kernel_rfl) rfl (by kernel_rfl) ?_
 go_simp
 refine wpAnyD_done (by kernel_rfl) ?_ _
 go_wp2_with fail
 go_ret
 exact ⟨rfl,b2.trans (qS5.mono (by omega))⟩
theorem OwnR.none2 {base g : Nat} {W : World} (hq : Blk W g #[.int .u32 0,.int .u32 0] 246) (hb : base <= g) : OwnR 1 246 base W (.slice (some ⟨g,0,none⟩) 0 2) (wRows []) :=
 ⟨⟨rfl,.inr ⟨g,2,_,rfl,hb,hq,Nat.zero_le _,by simp [maxLen],rfl,rfl⟩⟩,RowsOk.nil 1⟩
end Go.Proofs.YtlidpghnlloinaaGreatDoor
