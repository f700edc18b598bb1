/- Contracts and plain laws, several texts in one (DlRedS, GIntsX, DQue, DCnt). No conditions beyond those stated. -/
import Derived.Deep.AppendSrc
import Derived.Test.YtlidpghnlloinaaGreatDoorPk34
set_option maxRecDepth 100000
set_option maxHeartbeats 40000000
namespace Go.Proofs.YtlidpghnlloinaaGreatDoor
open Go.RowKit
set_option linter.unusedVariables false
theorem red_pos {nx : List Int} (h : alike nx = false) : 0 < nx.length:=by
 cases nx with
 | nil => simp [alike] at h
 | cons a r => simp
def anyD (nx : List Int) (j : Nat) : Bool:=(nx.take j).any fun t => t != nx.headD 0
theorem anyD_zero (nx : List Int) : anyD nx 0 = false:=by simp [anyD]
theorem anyD_succ {nx : List Int} {j : Nat} {t : Int} (h : nx[j]? = some t) : anyD nx (j + 1) = (anyD nx j || (t != nx.headD 0)):=by
 unfold anyD
 rw [List.take_add_one,h]
 simp [List.any_append]
theorem anyD_all {nx : List Int} {u : Nat} (h : alike nx = false) (hu : nx.length = u) : anyD nx u = true:=by
 unfold anyD alike at *
 rw [List.take_of_length_le (by omega)]
 rw [<- Bool.not_eq_true,List.all_eq_true] at h
 rw [List.any_eq_true]
 simp only [beq_iff_eq,Classical.not_forall] at h
 obtain ⟨t,ht,hn⟩:=h
 exact ⟨t,ht,by simpa using hn⟩
theorem head_getD (nx : List Int) : nx[0]?.getD 0 = nx.headD 0:=by cases nx <;> rfl
theorem nodup_ne {α : Type} {l : List α} (h : l.Nodup) {i k : Nat} {x y : α} (hx : l[i]? = some x) (hy : l[k]? = some y) (hik : k < i) : y ≠ x:=by
 intro e
 subst e
 obtain ⟨h1,e1⟩:=List.getElem?_eq_some_iff.1 hx
 obtain ⟨h2,e2⟩:=List.getElem?_eq_some_iff.1 hy
 exact (List.pairwise_iff_getElem.1 h) k i h2 h1 hik (by rw [e1,e2])
theorem mem_prodL {P : List (List Nat)} (h : ∀ p ∈ P,p ≠ []) {p : List Nat} (hp : p ∈ P) : p.length <= prodL P:=by
 induction P with
 | nil => cases hp
 | cons q P ih =>
  have h1:=prodL_pos fun q hq => h q (List.mem_cons_of_mem _ hq)
  have h2 : 1 <= q.length:=List.length_pos_iff.2 (h q (List.mem_cons_self ..))
  show p.length <= q.length * prodL P
  rcases List.mem_cons.1 hp with rfl | hp
  ·exact Nat.le_mul_of_pos_right _ h1
  ·exact Nat.le_trans (ih (fun q hq => h q (List.mem_cons_of_mem _ hq)) hp) (Nat.le_mul_of_pos_left _ h2)
theorem sum_le {α : Type} (L : List α) (f : α -> Nat) (M : Nat) (h : ∀ a ∈ L,f a <= M) : (L.map f).sum <= L.length * M:=by
 induction L with
 | nil => simp
 | cons a L ih =>
  have h1:=h a (List.mem_cons_self ..)
  have h2:=ih fun b hb => h b (List.mem_cons_of_mem _ hb)
  rw [List.map_cons,List.sum_cons,List.length_cons,Nat.add_mul,Nat.one_mul]
  omega
theorem restB_le {st : DSt} {M : Nat} (h : ∀ (n sc : Nat) (nx : List Int),st.nds[n]? = some (sc,nx) -> nx.length <= M) (vn : List Nat) : restB st vn <= st.nds.length * M:=by
 unfold restB
 refine Nat.le_trans (sum_le _ _ M fun n hn => ?_) (Nat.mul_le_mul_right _ ?_)
 ·cases hx : st.nds[n]? with
  | none => simp
  | some x => obtain ⟨sc,nx⟩:=x; exact h n sc nx hx
 ·have := List.length_filter_le (fun n => decide (n ∉ vn)) (List.range st.nds.length)
  rwa [List.length_range] at this
theorem red_small {P : List (List Nat)} {lf : List Nat -> List Nat} (hne : ∀ p ∈ P,p ≠ []) (hp : prodL P <= 300) {st : DSt} {root : Int} (he : (root,st) = tgt lf P 0 [] DSt.no) (hd : DgOk P lf st root) : st.nds.length <= 300 /\ st.lvs.length <= 300 /\ ∀ (n sc : Nat) (nx : List Int),st.nds[n]? = some (sc,nx) -> nx.length <= 300:=by
 have h:=tgt_size lf P 0 [] DSt.no hne
 rw [<- he] at h
 have e1 : DSt.no.nds.length = 0:=rfl
 have e2 : DSt.no.lvs.length = 0:=rfl
 refine ⟨by have := h.1; dsimp only at this; omega,by have := h.2; dsimp only at this; omega,fun n sc nx hx => ?_⟩
 obtain ⟨h1,h2,_⟩:=hd.wf.node n sc nx hx
 rw [h2,List.getElem?_eq_getElem h1,Option.getD_some]
 exact Nat.le_trans (mem_prodL hne (List.getElem_mem h1)) hp
theorem Bfs.few {st : DSt} {root : Int} {todo : List Int} {vn vl : List Nat} (h : Bfs st root todo vn vl) : vn.length <= st.nds.length /\ vl.length <= st.lvs.length:=by
 have a1:=List.Nodup.length_le_of_subset h.nn (l₂:=List.range st.nds.length) fun n hn => List.mem_range.2 (h.nlt n hn)
 have a2:=List.Nodup.length_le_of_subset h.ln (l₂:=List.range st.lvs.length) fun n hn => List.mem_range.2 (h.llt n hn)
 rw [List.length_range] at a1 a2
 exact ⟨a1,a2⟩
theorem tok_zero {st : DSt} {sc : Nat} {t : Int} (h : TOk st sc t) : TOk st 0 t:=by
 rcases h with ⟨n,e,h⟩ | ⟨n,x,e,h,_⟩
 ·exact .inl ⟨n,e,h⟩
 ·exact .inr ⟨n,x,e,h,Nat.zero_le _⟩
def nodeK (vn : List Nat) : List Int:=vn.map fun n : Nat => (n : Int)
def leafK (vl : List Nat) : List Int:=vl.map fun n : Nat => -1 - (n : Int)
theorem nodeK_mem {vn : List Nat} {n : Nat} : ((n : Int) ∈ nodeK vn) ↔ n ∈ vn:=by
 unfold nodeK
 rw [List.mem_map]
 constructor
 ·rintro ⟨m,h1,h2⟩
  have : m = n:=by omega
  exact this ▸ h1
 ·exact fun h => ⟨n,h,rfl⟩
theorem leafK_mem {vl : List Nat} {n : Nat} : (-1 - (n : Int) ∈ leafK vl) ↔ n ∈ vl:=by
 unfold leafK
 rw [List.mem_map]
 constructor
 ·rintro ⟨m,h1,h2⟩
  have : m = n:=by omega
  exact this ▸ h1
 ·exact fun h => ⟨n,h,rfl⟩
theorem nodeK_add (vn : List Nat) (n : Nat) : nodeK (vn ++ [n]) = nodeK vn ++ [(n : Int)]:=by simp [nodeK]
theorem leafK_add (vl : List Nat) (n : Nat) : leafK (vl ++ [n]) = leafK vl ++ [-1 - (n : Int)]:=by simp [leafK]
theorem nodeK_len (vn : List Nat) : (nodeK vn).length = vn.length:=by simp [nodeK]
theorem leafK_len (vl : List Nat) : (leafK vl).length = vl.length:=by simp [leafK]
theorem ints_len_ne {l m : List Int} (h : l.length ≠ m.length) : (l == m) = false:=beq_eq_false_iff_ne.2 fun e => h (by rw [e])
theorem ints_at_ne {l m : List Int} {k : Nat} (h : l[k]?.getD 0 ≠ m[k]?.getD 0) : (l == m) = false:=beq_eq_false_iff_ne.2 fun e => h (by rw [e])
theorem ints_all {l m : List Int} (hl : l.length = m.length) (h : ∀ i,i < l.length -> l[i]?.getD 0 = m[i]?.getD 0) : (l == m) = true:=by
 rw [beq_iff_eq]
 refine List.ext_getElem hl fun i h1 h2 => ?_
 have := h i h1
 rwa [List.getElem?_eq_getElem h1,List.getElem?_eq_getElem h2] at this
theorem gintsX_any (K : Nat) (u v : Value) (l m : List Int) (w : World) (hu : IntsX K w u l) (hv : IntsX K w v m) :
  Calls Tryz.prog 20 #[u,v] w fun e w' => e = .returned (.bool (l == m)) /\ ∃ n,w' = w.drewN n:=by
 obtain ⟨ua,ucap,rfl,hu1,hu2⟩:=id (RowsV.form hu)
 obtain ⟨va,vcap,rfl,hv1,hv2⟩:=id (RowsV.form hv)
 unfold maxLen at hv2 hu2
 by_cases hne : l.length = m.length
 case neg =>
  have HE:=Lib.hid (ints_len_ne hne)
  have hne2 : ¬ ((l.length : Int) = (m.length : Int)):=by omega
  go_enter Tryz.func20,Tryz.ntmps20
  go_wp2_with fail
  go_ret
  exact ⟨by rw [HE.out]; rfl,0,rfl⟩
 case pos =>
 obtain ⟨q,hq⟩ : ∃ q,l.length = q:=⟨_,rfl⟩
 have hq' : m.length = q:=by rw [<- hne,hq]
 rw [hq] at hu hu1 ⊢
 rw [hq'] at hv hv1 ⊢
 have HM:=Lib.hid hq
 have HL:=Lib.hid hq'
 clear hq hq' hne
 have hqq : ((q : Int) != (q : Int)) = false:=by simp
 go_enter Tryz.func20,Tryz.ntmps20
 go_wp2_with fail
 go_loopw [13] (fun i wr => ∃ k n : Nat,k <= q /\ i = .int .i64 k /\ wr = w.drewN n /\ Hid (∀ i,i < k -> l[i]?.getD 0 = m[i]?.getD 0)) (fun i _ => q - (intOf i).toNat)
 case atStart => exact ⟨0,0,Nat.zero_le _,rfl,rfl,Lib.hid fun i hi => absurd hi (Nat.not_lt_zero i)⟩
 case round =>
  obtain ⟨k,n,hk,rfl,rfl,HALL⟩:=hrel
  by_cases hlt : k < q
  ·obtain ⟨b,o,cap,he,_,_,hbK,hc⟩:=RowsV.pos hv (by rw [HL.out]; omega)
   simp only [Value.slice.injEq] at he
   obtain ⟨rfl,_,rfl⟩:=he
   have c0 : w.cell? ⟨b,o + k,none⟩ = some (.int .i64 (m[k]?.getD 0)):=by have := hc k (by rw [HL.out]; exact hlt) 0 (by omega); simpa using this
   obtain ⟨b',o',cap',he,_,_,hbK',hc'⟩:=RowsV.pos hu (by rw [HM.out]; omega)
   simp only [Value.slice.injEq] at he
   obtain ⟨rfl,_,rfl⟩:=he
   have c1 : w.cell? ⟨b',o' + k,none⟩ = some (.int .i64 (l[k]?.getD 0)):=by have := hc' k (by rw [HM.out]; exact hlt) 0 (by omega); simpa using this
   have HNE : Hid (l[k]?.getD 0 ≠ m[k]?.getD 0 -> (l == m) = false):=Lib.hid ints_at_ne
   have HEQ : Hid (l[k]?.getD 0 = m[k]?.getD 0 -> ∀ i,i < k + 1 -> l[i]?.getD 0 = m[i]?.getD 0):=Lib.hid fun he i hi => by
    by_cases h : i = k
    ·subst h; exact he
    ·exact HALL.out i (by omega)
   obtain ⟨x,hx⟩ : ∃ x,l[k]?.getD 0 = x:=⟨_,rfl⟩
   obtain ⟨y,hy⟩ : ∃ y,m[k]?.getD 0 = y:=⟨_,rfl⟩
   rw [hx] at c1 HNE HEQ
   rw [hy] at c0 HNE HEQ
   clear hx hy hc hc'
   by_cases hct : x = y
   ·have HE:=Lib.hid (HEQ.out hct)
    have hb1 : (x != y) = false:=by rw [hct]; simp
    clear hct
    go_upto_region 6 with fail
    go_quiet (fail)
    go_wp2_with fail
    exact ⟨⟨k + 1,_,by omega,by go_num,by first | rfl | exact drewN_two _ _ _,HE⟩,by simp [intOf]; omega⟩
   ·have HE:=Lib.hid (HNE.out hct)
    have hb1 : (x != y) = true:=by simpa using hct
    clear hct
    go_upto_region 6 with fail
    go_quiet (fail)
    go_wp2_with fail
    go_ret
    exact ⟨by rw [HE.out]; rfl,_,by first | rfl | exact drewN_two _ _ _⟩
  ·obtain rfl : q = k:=by omega
   have HE : Hid ((l == m) = true):=Lib.hid (ints_all (by rw [HM.out,HL.out]) (fun i hi => HALL.out i (by have := HM.out; omega)))
   go_wp2_with fail
   go_ret
   exact ⟨by rw [HE.out]; rfl,_,by first | rfl | exact drewN_two _ _ _⟩
def cellsI (l : List Int) : List Value:=l.map fun t => .int .i64 t
structure QueO (base : Nat) (w : World) (g q c : Nat) (l : List Int) : Prop where
 low : base <= g
 blk : ∃ cur,Blk w g cur 3 /\ q + c <= cur.size /\ ∀ j t,l[j]? = some t -> cur[q + j]? = some (.int .i64 t)
 len : l.length <= c
 cap : q + c <= maxLen
theorem QueO.lt {base g q c : Nat} {w : World} {l : List Int} (h : QueO base w g q c l) : g < w.heap.size:=by obtain ⟨cur,h1,_⟩:=h.blk; exact h1.lt
theorem QueO.move {base g q c : Nat} {w w' : World} {l : List Int} (h : QueO base w g q c l) (hk : w'.heap[g]? = w.heap[g]?) : QueO base w' g q c l:=by
 obtain ⟨cur,h1,h2,h3⟩:=h.blk
 exact ⟨h.low,⟨cur,hk.trans h1,h2,h3⟩,h.len,h.cap⟩
theorem QueO.head {base g q c : Nat} {w : World} {t : Int} {l : List Int} (h : QueO base w g q c (t :: l)) : w.cell? ⟨g,q,none⟩ = some (.int .i64 t):=by
 obtain ⟨cur,h1,h2,h3⟩:=h.blk
 exact h1.at (by have := h3 0 t rfl; simpa using this)
theorem QueO.pop {base g q c : Nat} {w : World} {t : Int} {l : List Int} (h : QueO base w g q (c + 1) (t :: l)) : QueO base w g (q + 1) c l:=by
 obtain ⟨cur,h1,h2,h3⟩:=h.blk
 refine ⟨h.low,⟨cur,h1,by omega,fun j u hu => ?_⟩,by have := h.len; simp at this; omega,by have := h.cap; omega⟩
 have := h3 (j + 1) u (by simpa using hu)
 rwa [show q + 1 + j = q + (j + 1) by omega]
theorem cellsI_len (l : List Int) : (cellsI l).length = l.length:=by simp [cellsI]
theorem cellsI_at {l : List Int} {j : Nat} {t : Int} (h : l[j]? = some t) : (cellsI l)[j]? = some (.int .i64 t):=by unfold cellsI; rw [List.getElem?_map,h]; rfl
theorem infoIntQ : (Tryz.prog.info? 3).map (fun i => (i.zero,i.size,i.bytes)) = some (some (.int .i64 0),1,8):=by kernel_rfl
theorem que_append {base g q c : Nat} {w : World} {l l2 : List Int} {x : Value} (h : QueO base w g q c l) (hs : Src Tryz.prog 1 56 x l2.length (cellsI l2) w) (hb : base <= w.heap.size) (h40 : l.length + l2.length <= 2 ^ 40) :
  ∃ g' q' c' w',(Builtin.append_ #[56,56] 56 #[.slice (some ⟨g,q,none⟩) l.length c,x]).run Tryz.prog w = .ok (.slice (some ⟨g',q',none⟩) (l.length + l2.length) c') w' /\ QueO base w' g' q' c' (l ++ l2) /\ Below base w w':=by
 obtain ⟨i,hi,hz0,hz1,hz2⟩:=info_parts infoIntQ
 obtain ⟨cur,h1,h2,h3⟩:=h.blk
 have hl:=h.len
 have hc:=h.cap
 have hs' : Src Tryz.prog i.size 56 x l2.length (cellsI l2) w:=by rw [hz1]; exact hs
 by_cases hr : l.length + l2.length <= c
 ·have hrun:=run_append_room_src (P:=Tryz.prog) w 56 56 56 3 i Tryz.underlying56 hi g q l.length c x l2.length (cellsI l2) hs' hr
   (fun j hj => by rw [cellsI_len] at hj; rw [hz1,Nat.mul_one]; rw [h1.at (Array.getElem?_eq_getElem (by omega : q + l.length + j < cur.size))]; rfl) (fun j hj => h1.free _)
  rw [hz1,Nat.mul_one] at hrun
  obtain ⟨cs',k1,k2,k3⟩:=blk_setCells (cellsI l2) (q + l.length) w cur h1 (by rw [cellsI_len]; omega)
  refine ⟨g,q,c,_,hrun,⟨h.low,⟨cs',k1,by omega,fun j t ht => ?_⟩,by simp; omega,hc⟩,?_⟩
  ·have hjl : j < (l ++ l2).length:=(List.getElem?_eq_some_iff.1 ht).1
   rw [List.length_append] at hjl
   rw [k3 (q + j) (by omega),cellsI_len]
   by_cases hj : j < l.length
   ·rw [if_neg (by omega)]
    rw [List.getElem?_append_left hj] at ht
    exact h3 j t ht
   ·rw [if_pos (by omega),show q + j - (q + l.length) = j - l.length by omega]
    rw [List.getElem?_append_right (by omega)] at ht
    exact cellsI_at ht
  ·have hg:=grown_setCells (cellsI l2) (q + l.length) w g
   exact ⟨hg.os,hg.tape,hg.output,hg.size,fun k hk => hg.block k (by have := h1.lt; omega) (fun e => by simp at e; have := h.low; omega)⟩
 ·have hold : (Builtin.firstCells i.size l.length (.slice (some ⟨g,q,none⟩) l.length c)).run Tryz.prog w.drew = .ok (cellsI l).toArray w.drew:=by
   refine run_firstCells_some w.drew i.size l.length ⟨g,q,none⟩ l.length c (cellsI l) (by rw [cellsI_len,hz1,Nat.mul_one]) fun j v hv => ?_
   have hjl : j < l.length:=by have := (List.getElem?_eq_some_iff.1 hv).1; rwa [cellsI_len] at this
   have ht:=List.getElem?_eq_getElem hjl
   rw [cellsI_at ht] at hv
   cases hv
   have := h1.at (h3 j _ ht)
   by_cases hj0 : j = 0
   ·subst hj0; simpa [Addr.add] using this
   ·simpa [Addr.add,hj0] using this
  have hrun:=run_append_grow_src (P:=Tryz.prog) w 56 56 56 3 i (.int .i64 0) Tryz.underlying56 hi hz0 (some ⟨g,q,none⟩) l.length c (cellsI l) hold x l2.length (cellsI l2) hs' (by omega) (by omega)
   (by rw [hz2]; exact growslice_fits (by omega) (by omega))
  have hge:=grownCap_ge w (l.length + l2.length) c 3
  have hle:=grownCap_le_maxLen w (l.length + l2.length) c 3 (by unfold maxLen; omega)
  refine ⟨w.heap.size,0,_,_,hrun,⟨hb,⟨_,Blk.new w.drew _ _,?_,fun j t ht => ?_⟩,by simpa using hge,by simpa using hle⟩,?_⟩
  ·have e1 : (Value.int .i64 0).cells.size = 1:=rfl
   simp [cellsI_len,Builtin.zeroCells,e1]
   omega
  ·have hjl : j < (l ++ l2).length:=(List.getElem?_eq_some_iff.1 ht).1
   have e : (cellsI l ++ cellsI l2)[j]? = some (.int .i64 t):=by
    have : cellsI l ++ cellsI l2 = cellsI (l ++ l2):=by simp [cellsI]
    rw [this]; exact cellsI_at ht
   have hlt:=(List.getElem?_eq_some_iff.1 e).1
   rw [Nat.zero_add,Array.getElem?_append_left (by simpa using hlt)]
   simpa using e
  ·exact (below_quiet (Below.refl _ _)).alloc hb _
theorem QueO.one {base : Nat} {w : World} {t : Int} {g : Nat} (h : Blk w g #[.int .i64 t] 3) (hb : base <= g) : QueO base w g 0 1 [t]:=by
 refine ⟨hb,⟨_,h,by simp,fun j u hu => ?_⟩,by simp,by unfold maxLen; omega⟩
 rcases j with _ | j
 ·cases hu; rfl
 ·cases hu
def popAt (q c : Nat) : Nat:=if c = 0 then q else q + 1
theorem QueO.next {base g q c : Nat} {w : World} {t : Int} {l : List Int} (h : QueO base w g q (c + 1) (t :: l)) : QueO base w g (popAt q c) c l:=by
 unfold popAt
 by_cases hc : c = 0
 ·subst hc
  rw [if_pos rfl]
  have hl:=h.len
  have : l = []:=List.eq_nil_of_length_eq_zero (by simpa using hl)
  subst this
  obtain ⟨cur,h1,h2,h3⟩:=h.blk
  exact ⟨h.low,⟨cur,h1,by omega,fun j u hu => by cases hu⟩,Nat.le_refl _,by have := h.cap; omega⟩
 ·rw [if_neg hc]; exact h.pop
theorem wp_append_que {base g q c : Nat} {w : World} {l l2 : List Int} {o : Oper} {a : Act} {K : Act -> World -> Prop} {Q : Exit -> Act -> World -> Prop} (s x : Operand)
  (ho : o.op = .call { callee:=.builtin .append,args:=#[s,x],argTypes:=#[56,56] }) (hty : o.type = 56) {n : Nat} (hn : l.length = n) (hs : a.eval s = .slice (some ⟨g,q,none⟩) n c) (h : QueO base w g q c l) {xv : Value} (hx : a.eval x = xv) (hsrc : Src Tryz.prog 1 56 xv l2.length (cellsI l2) w) (hb : base <= w.heap.size) (h40 : l.length + l2.length <= 2 ^ 40)
  (hk : ∀ g' q' c' w',QueO base w' g' q' c' (l ++ l2) -> Below base w w' -> K (a.put o.dst (.slice (some ⟨g',q',none⟩) (n + l2.length) c')) w') : o.wp Tryz.prog a w K Q:=by
 obtain ⟨g',q',c',w',hr,h1,h2⟩:=que_append h hsrc hb h40
 subst hn
 unfold Oper.wp
 simp [execOp,ho,resolve,invoke,builtin,hs,hx,hty,hr,Result.andThen]
 exact hk _ _ _ _ h1 h2
theorem wpList_append_que {base g q c : Nat} {w : World} {l l2 : List Int} {ops : Array Oper} {rest : List Oper} {o : Oper} {a : Act} {Q : Exit -> Act -> World -> Prop} (hgd : o.guard = none) (s x : Operand)
  (ho : o.op = .call { callee:=.builtin .append,args:=#[s,x],argTypes:=#[56,56] }) (hty : o.type = 56) {n : Nat} (hn : l.length = n) (hs : a.eval s = .slice (some ⟨g,q,none⟩) n c) (h : QueO base w g q c l) {xv : Value} (hx : a.eval x = xv) (hsrc : Src Tryz.prog 1 56 xv l2.length (cellsI l2) w) (hb : base <= w.heap.size) (h40 : l.length + l2.length <= 2 ^ 40)
  (hk : ∀ g' q' c' w',QueO base w' g' q' c' (l ++ l2) -> Below base w w' -> wpList Tryz.prog ops Q rest (a.put o.dst (.slice (some ⟨g',q',none⟩) (n + l2.length) c')) w') : wpList Tryz.prog ops Q (o :: rest) a w:=by
 refine wpList_plain hgd fun K' hK' => ?_
 exact wp_append_que s x ho hty hn hs h hx hsrc hb h40 fun g' q' c' w' h1 h2 => hK' _ _ (hk g' q' c' w' h1 h2)
theorem keyOf_I (t : Int) (h1 : -(2 ^ 62) <= t) (h2 : t <= 2 ^ 62) : keyOf Tryz.prog 3 (.int .i64 t) = some (.int .i64 t) :=
 Maps.keyOf_int_mk Tryz.underlying3 (by simp [Lit.wf,IntKind.min,IntKind.max,IntKind.signed,IntKind.bits]; omega)
def CntM (w : World) (b : Nat) (l : List Int) (top : Nat) : Prop :=
 ∃ f,MapIs w 3 b l.length f /\ ∀ t : Int,(t ∉ l -> f (.int .i64 t) = none) /\ (t ∈ l -> ∃ c : Nat,1 <= c /\ c <= top /\ f (.int .i64 t) = some (.int .i64 c))
theorem upd_I {f : Lit -> Option Value} {t u : Int} {v : Value} : upd f (.int .i64 t) v (.int .i64 u) = if u = t then some v else f (.int .i64 u):=by
 unfold upd; simp [Lit.sameKey]
section
variable {w : World} {b top : Nat} {l : List Int} {t : Int}
theorem CntM.start (h : MapIs w 3 b 0 (fun _ => none)) : CntM w b [] 0:=⟨_,h,fun t => ⟨fun _ => rfl,fun ht => by cases ht⟩⟩
theorem CntM.mono {top' : Nat} (h : CntM w b l top) (ht : top <= top') : CntM w b l top':=by
 obtain ⟨f,h1,h2⟩:=h
 exact ⟨f,h1,fun t => ⟨(h2 t).1,fun hm => by obtain ⟨c,h3,h4,h5⟩:=(h2 t).2 hm; exact ⟨c,h3,by omega,h5⟩⟩⟩
theorem CntM.kept {w' : World} {row : Option Nat} (h : CntM w b l top) (hg : w.grownBy w' row) (hne : some b ≠ row) : CntM w' b l top:=by
 obtain ⟨f,h1,h2⟩:=h; exact ⟨f,h1.kept hg hne,h2⟩
theorem CntM.below {w' : World} {B : Nat} (h : CntM w b l top) (hb : Below B w w') (hlt : b < B) : CntM w' b l top:=by
 obtain ⟨f,h1,h2⟩:=h; exact ⟨f,h1.below hb hlt,h2⟩
theorem CntM.new (h : CntM w b l top) (ht : t ∉ l) : ∃ f,MapIs w 3 b l.length f /\ (f (.int .i64 t)).getD (.int .i64 0) = .int .i64 0 /\ ∀ w' m,MapIs w' 3 b (if (f (.int .i64 t)).isSome then l.length else l.length + 1) (upd f (.int .i64 t) (.int .i64 1)) -> m = top + 1 -> CntM w' b (l ++ [t]) m:=by
 obtain ⟨f,h1,h2⟩:=h
 have h0:=(h2 t).1 ht
 refine ⟨f,h1,by rw [h0]; rfl,fun w' m hm hmt => ⟨upd f (.int .i64 t) (.int .i64 1),?_,fun u => ⟨fun hu => ?_,fun hu => ?_⟩⟩⟩
 ·rw [h0] at hm
  simpa using hm
 ·rw [upd_I,if_neg (by rintro rfl; simp at hu)]
  exact (h2 u).1 (fun e => hu (List.mem_append_left _ e))
 ·rw [upd_I]
  by_cases e : u = t
  ·rw [if_pos e]; exact ⟨1,by omega,by omega,rfl⟩
  ·rw [if_neg e]
   have hu' : u ∈ l:=by
    rcases List.mem_append.1 hu with h | h
    ·exact h
    ·exact absurd (List.mem_singleton.1 h) e
   obtain ⟨c,h3,h4,h5⟩:=(h2 u).2 hu'
   exact ⟨c,h3,by omega,h5⟩
theorem CntM.old (h : CntM w b l top) (ht : t ∈ l) : ∃ (f : Lit -> Option Value) (c : Nat),1 <= c /\ c <= top /\ MapIs w 3 b l.length f /\ (f (.int .i64 t)).getD (.int .i64 0) = .int .i64 c /\ ∀ w' m,MapIs w' 3 b (if (f (.int .i64 t)).isSome then l.length else l.length + 1) (upd f (.int .i64 t) (.int .i64 ((c : Int) + 1))) -> m = top + 1 -> CntM w' b l m:=by
 obtain ⟨f,h1,h2⟩:=h
 obtain ⟨c,h3,h4,h5⟩:=(h2 t).2 ht
 refine ⟨f,c,h3,h4,h1,by rw [h5]; rfl,fun w' m hm hmt => ⟨upd f (.int .i64 t) (.int .i64 ((c : Int) + 1)),?_,fun u => ⟨fun hu => ?_,fun hu => ?_⟩⟩⟩
 ·rw [h5] at hm
  simpa using hm
 ·rw [upd_I,if_neg (by rintro rfl; exact hu ht)]
  exact (h2 u).1 hu
 ·rw [upd_I]
  by_cases e : u = t
  ·rw [if_pos e]; exact ⟨c + 1,by omega,by omega,by simp⟩
  ·rw [if_neg e]
   obtain ⟨c,h3,h4,h5⟩:=(h2 u).2 hu
   exact ⟨c,h3,by omega,h5⟩
theorem CntM.step (h : CntM w b l top) (t : Int) : ∃ (f : Lit -> Option Value) (c : Nat),c <= top /\ (t ∉ l -> c = 0) /\ (t ∈ l -> 1 <= c) /\ MapIs w 3 b l.length f /\ (f (.int .i64 t)).getD (.int .i64 0) = .int .i64 c /\ ∀ w' m,MapIs w' 3 b (if (f (.int .i64 t)).isSome then l.length else l.length + 1) (upd f (.int .i64 t) (.int .i64 ((c : Int) + 1))) -> m = top + 1 -> (t ∉ l -> CntM w' b (l ++ [t]) m) /\ (t ∈ l -> CntM w' b l m):=by
 by_cases ht : t ∈ l
 ·obtain ⟨f,c,h1,h2,h3,h4,h5⟩:=h.old ht
  exact ⟨f,c,h2,fun e => absurd ht e,fun _ => h1,h3,h4,fun w' m hm e => ⟨fun n => absurd ht n,fun _ => h5 w' m hm e⟩⟩
 ·obtain ⟨f,h1,h2,h3⟩:=h.new ht
  exact ⟨f,0,Nat.zero_le _,fun _ => rfl,fun e => absurd e ht,h1,h2,fun w' m hm e => ⟨fun _ => h3 w' m hm e,fun n => absurd n ht⟩⟩
theorem upd_self (f : Lit -> Option Value) (t : Int) (v d : Value) : ((upd f (.int .i64 t) v) (.int .i64 t)).getD d = v:=by rw [upd_I,if_pos rfl]; rfl
end
end Go.Proofs.YtlidpghnlloinaaGreatDoor
