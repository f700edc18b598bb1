/- Contracts and plain laws, several texts in one (GIns, GIns2, GIns3, GIns4). No conditions beyond those stated. -/
import Derived.Laws.NewBlocks
import Derived.Test.YtlidpghnlloinaaGreatDoorPk10
set_option maxRecDepth 100000
set_option maxHeartbeats 40000000
namespace Go.Proofs.YtlidpghnlloinaaGreatDoor
open Go.RowKit
set_option linter.unusedVariables false
theorem infoVal6 : (Tryz.prog.info? 47).map (fun i => i.size) = some 6:=by kernel_rfl
theorem Tryz.infoValG : (Tryz.prog.info? 47).map (fun i => (i.zero,i.size,i.bytes)) = some (some vv0.agg,6,80):=by kernel_rfl
theorem overlap_no (w : World) (a b ao bo la ca lb cb : Nat) (A B : Array Value) (hA : Blk w a A 47) (hB : Blk w b B 47) (hne : a ≠ b) (hB0 : B.size ≠ 0) :
  (callFunc 179 #[.slice (some ⟨a,ao,none⟩) la ca,.slice (some ⟨b,bo,none⟩) lb cb]).run Tryz.prog w = .ok (.value (.bool false)) w:=by
 have hsa : w.shape? a = some (47,A.size):=by unfold World.shape?; rw [hA]
 have hsb : w.shape? b = some (47,B.size):=by unfold World.shape?; rw [hB]
 rw [run_callFunc_extern Tryz.func179 (by kernel_rfl) (by kernel_rfl) (by kernel_rfl) (e:=Extern.SlicesOverlaps.overlaps #[50,50] #[4]) (by kernel_rfl),
  Lib.run_overlaps_apart w 50 4 47 Tryz.underlying50 6 Tryz.sizeOf47 ⟨a,ao,none⟩ ⟨b,bo,none⟩ la ca lb cb hne 47 47 A.size B.size hsa hsb hB0 (hA.free _) (hA.free _)]
 rfl
theorem insertV_room (base g n cap i xb : Nat) (cur : Array Value) (rs : List (List Value)) (x : Vv) (w : World) (hq : Blk w g cur 47) (hsz : cur.size = cap * 6) (hcur : cur.toList.take (n * 6) = rs.flatten) (hok : RowsOk 6 rs) (hl : rs.length = n)
  (hi : i < n) (hroom : n + 1 <= cap) (hcm : cap <= maxLen) (hx : Blk w xb x.cells 47) (h1 : ∀ u ∈ x.cells.toList,u.oneCell' = true) (hne : xb ≠ g) :
  Calls Tryz.prog 146 #[.slice (some ⟨g,0,none⟩) n cap,.int .i64 i,.slice (some ⟨xb,0,none⟩) 1 1] w fun e w' => e = .returned (.slice (some ⟨g,0,none⟩) (n + 1) cap) ∧
   (∃ cur',Blk w' g cur' 47 /\ cur'.size = cap * 6 /\ cur'.toList.take ((n + 1) * 6) = (insR rs i x.cells.toList).flatten) /\ w.grownBy w' (some g):=by
 have hfl:=flat_length hok
 rw [hl] at hfl
 have hov : ∀ lb cb,(callFunc 179 #[.slice (some ⟨xb,0,none⟩) 1 1,.slice (some ⟨g,(i + 1) * 6,none⟩) lb cb]).run Tryz.prog w = .ok (.value (.bool false)) w:=fun lb cb => overlap_no w xb g 0 _ 1 1 lb cb _ _ hx hq hne (by omega)
 unfold maxLen at hcm
 obtain ⟨cs1,hcs1⟩ : ∃ cs1,rs.flatten.drop (i * 6) = cs1:=⟨_,rfl⟩
 have hcl : cs1.length = (n - i) * 6:=by rw [<- hcs1,List.length_drop,hfl]; omega
 obtain ⟨cur1,hcur1⟩ : ∃ cur1,(cur.toList.take ((i + 1) * 6) ++ cs1 ++ cur.toList.drop ((i + 1) * 6 + cs1.length)).toArray = cur1:=⟨_,rfl⟩
 obtain ⟨cur2,hcur2⟩ : ∃ cur2,(cur1.toList.take (i * 6) ++ x.cells.toList ++ cur1.toList.drop (i * 6 + x.cells.toList.length)).toArray = cur2:=⟨_,rfl⟩
 have hs1 : cur1.size = cap * 6:=by
  rw [<- hcur1,List.size_toArray]
  simp only [List.length_append,List.length_take,List.length_drop,Array.length_toList,hsz,hcl]
  omega
 have hs2 : cur2.size = cap * 6:=by
  rw [<- hcur2,List.size_toArray]
  simp only [List.length_append,List.length_take,List.length_drop,Array.length_toList,hs1]
  simp only [List.length_cons,List.length_nil]
  omega
 have hcells : ∀ (j : Nat) (u : Value),rs.flatten[j]? = some u -> w.cell? ⟨g,j,none⟩ = some u:=fun j u hj => by
  refine hq.at ?_
  rw [<- hcur,List.getElem?_take] at hj
  split at hj
  ·rw [<- Array.getElem?_toList]; exact hj
  ·cases hj
 have h1c : ∀ v ∈ cs1,v.oneCell' = true:=fun v hv => by
  rw [<- hcs1] at hv
  have := List.mem_of_mem_drop hv
  rw [List.mem_flatten] at this
  obtain ⟨r,hr,hv⟩:=this
  exact (hok r hr).2 v hv
 have hcp1 : ∀ ty dc sc,(Builtin.copy_ #[50,50] ty #[.slice (some ⟨g,(i + 1) * 6,none⟩) (n + 1 - (i + 1)) dc,.slice (some ⟨g,i * 6,none⟩) (n + 1 - i) sc]).run Tryz.prog w.drew = .ok (goInt (n - i : Nat)) (w.drew.setRow g cur1):=fun ty dc sc => by
  have hmin : Nat.min (n + 1 - i) (n + 1 - (i + 1)) = n - i:=by simp only [Nat.min_def]; split <;> omega
  have := run_copy_rowC w.drew 50 50 ty 47 6 g ((i + 1) * 6) (n + 1 - (i + 1)) dc ⟨g,i * 6,none⟩ (n + 1 - i) sc cur 47 cs1 Tryz.underlying50 infoVal6 hq (by rw [hmin,hcl])
   (fun j v hj => by rw [addr_add]; exact hcells _ v (by rw [<- hcs1,List.getElem?_drop] at hj; exact hj)) (by rw [hcl,hsz]; omega) h1c
  rw [hmin,hcur1] at this
  exact this
 have hcp2 : ∀ (W : World),Blk W g cur1 47 -> Blk W xb x.cells 47 -> ∀ ty dc,(Builtin.copy_ #[50,50] ty #[.slice (some ⟨g,i * 6,none⟩) (n + 1 - i) dc,.slice (some ⟨xb,0,none⟩) 1 1]).run Tryz.prog W = .ok (goInt (1 : Nat)) (W.setRow g cur2):=fun W hW1 hW2 ty dc => by
  have hmin : Nat.min 1 (n + 1 - i) = 1:=by simp only [Nat.min_def]; split <;> omega
  have := run_copy_rowC W 50 50 ty 47 6 g (i * 6) (n + 1 - i) dc ⟨xb,0,none⟩ 1 1 cur1 47 x.cells.toList Tryz.underlying50 infoVal6 hW1 (by rw [hmin]; rfl)
   (fun j v hj => by rw [addr_add]; exact hW2.at (by rw [Nat.zero_add]; simpa using hj)) (by rw [hs1]; simp only [List.length_cons,List.length_nil]; omega) h1
  rw [hmin,hcur2] at this
  exact this
 have hz2 : ((i : Int) == (n : Int)) = false:=by simp; omega
 have hz3 : decide ((cap : Int) < (n : Int) + 1) = false:=by simp; omega
 have hn2 : ¬ cap = i:=by omega
 have hn3 : ¬ cap = i + 1:=by omega
 have hin : i <= n:=by omega
 have HCP1:=Lib.hid hcp1
 have HCP2:=Lib.hid hcp2
 have HX:=Lib.hid hx
 have HQ:=Lib.hid hq
 have HLN:=Lib.hid hl
 have HCS:=Lib.hid hcs1
 clear hcp1 hcp2 hcells h1c hcs1 hcl hx hq hfl hl
 go_enter Tryz.func146,Tryz.ntmps146
 go_upto_region 14 with fail
 go_wp2_with (simp only [hov])
 have htn : ((i : Int) + 1).toNat = i + 1:=by omega
 have hb1 : (0 : Int) <= (i : Int) + 1:=by omega
 have hb3 : (i : Int) + 1 <= (n : Int) + 1:=by omega
 have hb4 : i <= n + 1:=by omega
 have hb5 : (i : Int) <= (n : Int) + 1:=by omega
 have hb6 : ¬ ((n : Int) + 1 < (i : Int)):=by omega
 have hw1 : IntKind.i64.wrap ((i : Int) + 1) = (i : Int) + 1:=by rw [IntKind.wrap_i64]; omega
 refine region_plain (fun _ => True) [] (by kernel_rfl) ?_
 have qS : (fun _ : World => True) w.drew:=trivial
 refine wpAnyD_tp (i:=0) (v:=.slice (some ⟨g,0,none⟩) (n + 1) cap) rfl qS ?_
 refine wpAnyD_tp (i:=1) (v:=.int .i64 i) rfl qS ?_
 refine wpAnyD_tp (i:=2) (v:=.int .i64 1) rfl qS ?_
 refine wpAnyD_tp (i:=3) (v:=.int .i64 ((i : Int) + 1)) rfl qS ?_
 refine wpAnyD_tp (i:=4) (v:=.slice (some ⟨g,(i + 1) * 6,none⟩) (n + 1 - (i + 1)) (cap - (i + 1))) rfl qS ?_
 refine wpAnyD_tp (i:=5) (v:=.slice (some ⟨g,0,none⟩) (n + 1) cap) rfl qS ?_
 refine wpAnyD_tp (i:=6) (v:=.int .i64 i) rfl qS ?_
 refine wpAnyD_tp (i:=7) (v:=.slice (some ⟨g,i * 6,none⟩) (n + 1 - i) (cap - i)) rfl qS ?_
 refine wpAnyD_one (i:=8) (by kernel_rfl) rfl (by kernel_rfl) ?_
 refine wp_copy_runV _ _ _ 50 50 rfl (.slice (some ⟨g,(i + 1) * 6,none⟩) (n + 1 - (i + 1)) (cap - (i + 1))) (.slice (some ⟨g,i * 6,none⟩) (n + 1 - i) (cap - i)) (by simp [Act.eval,Act.put]) (by simp [Act.eval,Act.put]) (HCP1.out _ _ _) ?_
 refine ⟨fun _ => trivial,?_⟩
 refine wpAnyD_done (by kernel_rfl) ?_ _
 have hq1 : Blk (w.drew.setRow g cur1) g cur1 47:=setRow_heap w.drew g cur cur1 47 _ HQ.out
 have hx1 : Blk (w.drew.setRow g cur1) xb x.cells 47:=(setRow_other w.drew g xb cur1 hne).trans HX.out
 obtain ⟨W1,hW1⟩ : ∃ W1,w.drew.setRow g cur1 = W1:=⟨_,rfl⟩
 rw [hW1] at hq1 hx1 ⊢
 have HW1:=Lib.hid hW1
 have HC2:=Lib.hid (HCP2.out W1 hq1 hx1)
 clear hW1
 go_simp
 go_upto_region 16 with fail
 iterate 13 go_step
 refine wpList_plain rfl fun _ hKK => wp_copy_runV W1 _ _ 50 50 rfl (.slice (some ⟨g,i * 6,none⟩) (n + 1 - i) (cap - i)) (.slice (some ⟨xb,0,none⟩) 1 1) (by simp [Act.eval]) (by simp [Act.eval]) (HC2.out _ _) (hKK _ _ ?_)
 go_wp2_with fail
 go_ret
 have hsw : (W1.setRow g cur2).heap.size = w.heap.size:=by rw [<- HW1.out]; simp [World.setRow]
 refine ⟨by simp,⟨cur2,setRow_heap W1 g cur1 cur2 47 _ hq1,hs2,?_⟩,⟨by rw [<- HW1.out]; rfl,by rw [<- HW1.out]; rfl,by rw [<- HW1.out]; rfl,by omega,fun k _ hk => ?_⟩⟩
 ·rw [insR_flat hok]
  refine shift_list (c:=6) (n:=n) (i:=i) (cur1:=cur1.toList) hcur (by have := flat_length hok; rw [HLN.out] at this; exact this) hin rfl ?_ ?_ (by rw [Array.length_toList,hsz]; omega)
  ·rw [<- hcur1,HCS.out]
  ·rw [<- hcur2]
 ·have hkg : k ≠ g:=fun e => hk (by rw [e])
  rw [setRow_other W1 g k cur2 hkg,<- HW1.out,setRow_other w.drew g k cur1 hkg]
  rfl
theorem insertV_grow (base g n i xb : Nat) (cur : Array Value) (rs : List (List Value)) (x : Vv) (w : World) (hq : Blk w g cur 47) (hsz : cur.size = n * 6) (hcur : cur.toList.take (n * 6) = rs.flatten) (hok : RowsOk 6 rs) (hl : rs.length = n)
  (hi : i < n) (hbig : n <= 2 ^ 20) (hx : Blk w xb x.cells 47) (h1 : ∀ u ∈ x.cells.toList,u.oneCell' = true) :
  Calls Tryz.prog 146 #[.slice (some ⟨g,0,none⟩) n n,.int .i64 i,.slice (some ⟨xb,0,none⟩) 1 1] w fun e w' => ∃ G,e = .returned (.slice (some ⟨w.heap.size,0,none⟩) (n + 1) G) /\ n + 1 <= G /\ G <= maxLen ∧
   (∃ cur',Blk w' w.heap.size cur' 47 /\ cur'.size = G * 6 /\ cur'.toList.take ((n + 1) * 6) = (insR rs i x.cells.toList).flatten) /\ w.grownBy w' none:=by
 have hfl:=flat_length hok
 rw [hl] at hfl
 obtain ⟨i0,hi0,hz0,hzs,hzb⟩:=info_parts Tryz.infoValG
 have hgl:=hq.lt
 have hxl:=hx.lt
 obtain ⟨N,hN⟩ : ∃ N,w.heap.size = N:=⟨_,rfl⟩
 rw [hN] at hgl hxl ⊢
 obtain ⟨G,hG⟩ : ∃ G,grownCap w (n + 1) n 47 = G:=⟨_,rfl⟩
 have hGn : n + 1 <= G:=by rw [<- hG]; exact grownCap_ge w _ _ _
 have hGm : G <= maxLen:=by rw [<- hG]; exact grownCap_le_maxLen w (n + 1) n 47 (by unfold maxLen; omega)
 have hcells : ∀ (j : Nat) (u : Value),rs.flatten[j]? = some u -> w.cell? ⟨g,j,none⟩ = some u:=fun j u hj => by
  refine hq.at ?_
  rw [<- hcur,List.getElem?_take] at hj
  split at hj
  ·rw [<- Array.getElem?_toList]; exact hj
  ·cases hj
 have h1c : ∀ v ∈ rs.flatten,v.oneCell' = true:=fun v hv => by
  rw [List.mem_flatten] at hv
  obtain ⟨r,hr,hv⟩:=hv
  exact (hok r hr).2 v hv
 obtain ⟨ROW,hROW⟩ : ∃ ROW : Array Value,(rs.flatten.take (i * 6)).toArray ++ Builtin.zeroCells vv0.agg.cells (n + 1 - i) ++ Builtin.zeroCells vv0.agg.cells (G - (n + 1)) = ROW:=⟨_,rfl⟩
 have hRs : ROW.size = G * 6:=by
  rw [<- hROW]
  simp [Builtin.zeroCells,Value.cells,hfl]
  omega
 have hRt : ROW.toList.take (i * 6) = rs.flatten.take (i * 6):=by
  rw [<- hROW,Array.toList_append,Array.toList_append,List.append_assoc,List.take_append_of_le_length (by rw [List.length_take,hfl]; omega),List.take_of_length_le (by rw [List.length_take,hfl]; omega)]
 have hap : ∀ ty,(Builtin.append_ #[50,3] ty #[.slice (some ⟨g,0,none⟩) i n,.int .i64 ((n : Int) + 1 - (i : Int))]).run Tryz.prog w = .ok (.slice (some ⟨N,0,none⟩) (n + 1) G) (w.drew.alloc (.cells ROW 47)):=fun ty => by
  have hold : (Builtin.firstCells i0.size i (.slice (some ⟨g,0,none⟩) i n)).run Tryz.prog w.drew = .ok (rs.flatten.take (i * 6)).toArray w.drew:=by
   rw [hzs]
   exact run_firstCells_some w.drew 6 i ⟨g,0,none⟩ i n (rs.flatten.take (i * 6)) (by rw [List.length_take,hfl]; omega) (fun j v hj => by
    rw [addr_add,Nat.zero_add]
    rw [List.getElem?_take] at hj
    split at hj
    ·exact hcells j v hj
    ·cases hj)
  have hik : i + (n + 1 - i) = n + 1:=by omega
  have h:=Lib.run_append_grow_zeros w 50 3 ty 47 i0 _ .i64 .i64 Tryz.underlying50 Tryz.underlying3 hi0 hz0 (some ⟨g,0,none⟩) i n (rs.flatten.take (i * 6)) hold (n + 1 - i) (by omega) (by omega) (by omega) (by omega) (by rw [hzb]; omega) (by rw [hzb,hik]; exact growslice_fits (by omega) (by omega))
  rw [hik,hG,hROW,hN,show (((n + 1 - i : Nat)) : Int) = (n : Int) + 1 - (i : Int) by omega] at h
  exact h
 obtain ⟨cur1,hcur1⟩ : ∃ cur1,(ROW.toList.take (i * 6) ++ x.cells.toList ++ ROW.toList.drop (i * 6 + x.cells.toList.length)).toArray = cur1:=⟨_,rfl⟩
 obtain ⟨cs1,hcs1⟩ : ∃ cs1,rs.flatten.drop (i * 6) = cs1:=⟨_,rfl⟩
 have hcl : cs1.length = (n - i) * 6:=by rw [<- hcs1,List.length_drop,hfl]; omega
 obtain ⟨cur2,hcur2⟩ : ∃ cur2,(cur1.toList.take ((i + 1) * 6) ++ cs1 ++ cur1.toList.drop ((i + 1) * 6 + cs1.length)).toArray = cur2:=⟨_,rfl⟩
 have hs1 : cur1.size = G * 6:=by
  rw [<- hcur1,List.size_toArray]
  simp only [List.length_append,List.length_take,List.length_drop,Array.length_toList,hRs]
  simp only [List.length_cons,List.length_nil]
  omega
 have hs2 : cur2.size = G * 6:=by
  rw [<- hcur2,List.size_toArray]
  simp only [List.length_append,List.length_take,List.length_drop,Array.length_toList,hs1,hcl]
  omega
 obtain ⟨W1,hW1⟩ : ∃ W1,w.drew.alloc (.cells ROW 47) = W1:=⟨_,rfl⟩
 rw [hW1] at hap
 have hNW : w.drew.heap.size = N:=hN
 have hR1 : Blk W1 N ROW 47:=by rw [<- hW1,<- hNW]; exact Blk.new w.drew ROW 47
 have hbW : ∀ k,k < N -> W1.heap[k]? = w.heap[k]? := fun k hk => by rw [<- hW1]; exact Below.heap_alloc w.drew _ _ (by rw [hNW]; exact hk)
 have hcp1 : ∀ ty dc,(Builtin.copy_ #[50,50] ty #[.slice (some ⟨N,i * 6,none⟩) (n + 1 - i) dc,.slice (some ⟨xb,0,none⟩) 1 1]).run Tryz.prog W1 = .ok (goInt (1 : Nat)) (W1.setRow N cur1):=fun ty dc => by
  have hmin : Nat.min 1 (n + 1 - i) = 1:=by simp only [Nat.min_def]; split <;> omega
  have := run_copy_rowC W1 50 50 ty 47 6 N (i * 6) (n + 1 - i) dc ⟨xb,0,none⟩ 1 1 ROW 47 x.cells.toList Tryz.underlying50 infoVal6 hR1 (by rw [hmin]; rfl)
   (fun j v hj => by rw [addr_add]; exact Blk.at ((hbW xb hxl).trans hx) (by rw [Nat.zero_add]; simpa using hj)) (by rw [hRs]; simp only [List.length_cons,List.length_nil]; omega) h1
  rw [hmin,hcur1] at this
  exact this
 have hcp2 : ∀ (W : World),Blk W N cur1 47 -> W.heap[g]? = w.heap[g]? -> ∀ ty dc sc,(Builtin.copy_ #[50,50] ty #[.slice (some ⟨N,(i + 1) * 6,none⟩) (n + 1 - (i + 1)) dc,.slice (some ⟨g,i * 6,none⟩) (n - i) sc]).run Tryz.prog W = .ok (goInt (n - i : Nat)) (W.setRow N cur2):=fun W hW1 hW2 ty dc sc => by
  have hmin : Nat.min (n - i) (n + 1 - (i + 1)) = n - i:=by simp only [Nat.min_def]; split <;> omega
  have := run_copy_rowC W 50 50 ty 47 6 N ((i + 1) * 6) (n + 1 - (i + 1)) dc ⟨g,i * 6,none⟩ (n - i) sc cur1 47 cs1 Tryz.underlying50 infoVal6 hW1 (by rw [hmin,hcl])
   (fun j v hj => by
    rw [addr_add]
    refine (World.cell?_of_block (w:=w) (a:=⟨g,_,none⟩) hW2).trans (hcells _ v ?_)
    rw [<- hcs1,List.getElem?_drop] at hj; exact hj) (by rw [hcl,hs1]; omega) (fun v hv => h1c v (by rw [<- hcs1] at hv; exact List.mem_of_mem_drop hv))
  rw [hmin,hcur2] at this
  exact this
 have hm:=hGm
 unfold maxLen at hm
 have hz2 : ((i : Int) == (n : Int)) = false:=by simp; omega
 have hz3 : decide ((n : Int) < (n : Int) + 1) = true:=by simp; omega
 have hn2 : ¬ n = i:=by omega
 have hn4 : ¬ G = i:=by omega
 have hn5 : ¬ G = i + 1:=by omega
 have hin : i <= n:=by omega
 have hin2 : i <= n + 1:=by omega
 have htn : ((i : Int) + 1).toNat = i + 1:=by omega
 have hb1 : (0 : Int) <= (i : Int) + 1:=by omega
 have hb3 : (i : Int) + 1 <= (n : Int) + 1:=by omega
 have hb5 : (i : Int) <= (n : Int) + 1:=by omega
 have hb6 : ¬ ((n : Int) + 1 < (i : Int)):=by omega
 have hw1 : IntKind.i64.wrap ((i : Int) + 1) = (i : Int) + 1:=by rw [IntKind.wrap_i64]; omega
 have HAP:=Lib.hid hap
 have HCP1:=Lib.hid hcp1
 have HCP2:=Lib.hid hcp2
 have HLN:=Lib.hid hl
 have HCS:=Lib.hid hcs1
 have HQ:=Lib.hid hq
 have HX:=Lib.hid hx
 have HB:=Lib.hid hbW
 have HR1:=Lib.hid hR1
 have HW1:=Lib.hid hW1
 have HNN:=Lib.hid hN
 have HRT:=Lib.hid hRt
 have H1C:=Lib.hid h1c
 clear hap hcp1 hcp2 hcells h1c hcs1 hcl hx hq hfl hl hbW hR1 hW1 hN hNW hRt hROW hG hi0 hz0 hzs hzb
 go_enter Tryz.func146,Tryz.ntmps146
 go_upto_region 9 with fail
 iterate 25 go_step
 refine wpList_plain rfl fun _ hKK => wp_append_runV w _ _ 50 3 rfl (.slice (some ⟨g,0,none⟩) i n) (.int .i64 ((n : Int) + 1 - (i : Int))) (by simp [Act.eval]) (by simp [Act.eval]) (HAP.out _) (hKK _ _ ?_)
 go_upto_region 10 with fail
 iterate 13 go_step
 refine wpList_plain rfl fun _ hKK => wp_copy_runV W1 _ _ 50 50 rfl (.slice (some ⟨N,i * 6,none⟩) (n + 1 - i) (G - i)) (.slice (some ⟨xb,0,none⟩) 1 1) (by simp [Act.eval]) (by simp [Act.eval]) (HCP1.out _ _) (hKK _ _ ?_)
 have hgN : g ≠ N:=by omega
 have hq2 : Blk (W1.setRow N cur1) N cur1 47:=setRow_heap W1 N ROW cur1 47 _ HR1.out
 have hg2 : (W1.setRow N cur1).heap[g]? = w.heap[g]? := (setRow_other W1 N g cur1 hgN).trans (HB.out g hgl)
 have HW1s : Hid (W1.heap.size = N + 1):=Lib.hid (by rw [<- HW1.out,World.size_alloc]; show w.heap.size + 1 = _; rw [HNN.out])
 obtain ⟨W2,hW2⟩ : ∃ W2,W1.setRow N cur1 = W2:=⟨_,rfl⟩
 rw [hW2] at hq2 hg2 ⊢
 have HW2:=Lib.hid hW2
 have HC2:=Lib.hid (HCP2.out W2.drew hq2 hg2)
 clear hW2
 go_upto_region 11 with fail
 refine region_plain (fun _ => True) [] (by kernel_rfl) ?_
 have qS : (fun _ : World => True) W2.drew:=trivial
 refine wpAnyD_tp (i:=0) (v:=.slice (some ⟨N,0,none⟩) (n + 1) G) rfl qS ?_
 refine wpAnyD_tp (i:=1) (v:=.int .i64 i) rfl qS ?_
 refine wpAnyD_tp (i:=2) (v:=.int .i64 1) rfl qS ?_
 refine wpAnyD_tp (i:=3) (v:=.int .i64 ((i : Int) + 1)) rfl qS ?_
 refine wpAnyD_tp (i:=4) (v:=.slice (some ⟨N,(i + 1) * 6,none⟩) (n + 1 - (i + 1)) (G - (i + 1))) rfl qS ?_
 refine wpAnyD_tp (i:=5) (v:=.slice (some ⟨g,0,none⟩) n n) rfl qS ?_
 refine wpAnyD_tp (i:=6) (v:=.int .i64 i) rfl qS ?_
 refine wpAnyD_tp (i:=7) (v:=.slice (some ⟨g,i * 6,none⟩) (n - i) (n - i)) rfl qS ?_
 refine wpAnyD_one (i:=8) (by kernel_rfl) rfl (by kernel_rfl) ?_
 refine wp_copy_runV _ _ _ 50 50 rfl (.slice (some ⟨N,(i + 1) * 6,none⟩) (n + 1 - (i + 1)) (G - (i + 1))) (.slice (some ⟨g,i * 6,none⟩) (n - i) (n - i)) (by simp [Act.eval,Act.put]) (by simp [Act.eval,Act.put]) (HC2.out _ _ _) ?_
 refine ⟨fun _ => trivial,?_⟩
 refine wpAnyD_done (by kernel_rfl) ?_ _
 go_simp
 go_wp2_with fail
 go_ret
 have hsw : (W2.drew.setRow N cur2).heap.size = N + 1:=by rw [<- HW1s.out,<- HW2.out]; simp [World.setRow]
 refine ⟨G,rfl,hGn,hGm,⟨cur2,setRow_heap W2.drew N cur1 cur2 47 _ hq2,hs2,?_⟩,⟨by rw [<- HW2.out,<- HW1.out]; rfl,by rw [<- HW2.out,<- HW1.out]; rfl,by rw [<- HW2.out,<- HW1.out]; rfl,by rw [hsw,HNN.out]; omega,fun k hk _ => ?_⟩⟩
 ·rw [insR_flat hok]
  refine grow_list (c:=6) (n:=n) (i:=i) (ROW:=ROW.toList) (cur1:=cur1.toList) HRT.out (by have := flat_length hok; rw [HLN.out] at this; exact this) hin rfl (by rw [Array.length_toList,hRs]; omega) ?_ ?_
  ·rw [<- hcur1]
  ·rw [<- hcur2,HCS.out]
 ·rw [HNN.out] at hk
  have hkN : k ≠ N:=by omega
  rw [setRow_other W2.drew N k cur2 hkN]
  show W2.heap[k]? = _
  rw [<- HW2.out,setRow_other W1 N k cur1 hkN]
  exact HB.out k hk
theorem vv_row (x : Vv) (h1 : ∀ u ∈ x.cells.toList,u.oneCell' = true) : RowsOk 6 [x.cells.toList]:=RowsOk.one rfl h1
theorem row_cellV {w : World} {xb : Nat} {z : Vv} (h : Blk w xb z.cells 47) {i j : Nat} {r : List Value} {u : Value} (hi : [z.cells.toList][i]? = some r) (hj : r[j]? = some u) : w.cell? ⟨xb,0 + (i * 6 + j),none⟩ = some u:=by
 match i,hi with
 | 0,hi =>
  simp only [List.getElem?_cons_zero,Option.some.injEq] at hi
  subst hi
  have := h.at (i:=j) (x:=u) (by simpa using hj)
  rwa [show 0 + (0 * 6 + j) = j by omega]
 | i + 1,hi => simp at hi
theorem insR_end {rs : List (List Value)} (r : List Value) : insR rs rs.length r = rs ++ [r]:=by unfold insR; rw [List.take_length,List.drop_length]
theorem insertV_end (base xb : Nat) (v : Value) (rs : List (List Value)) (x : Vv) (w : World) (hown : OwnR 6 47 base w v rs) (hbig : rs.length <= 2 ^ 20) (hbase : base <= w.heap.size) (hx : Blk w xb x.cells 47) (h1 : ∀ u ∈ x.cells.toList,u.oneCell' = true) :
  Calls Tryz.prog 146 #[v,.int .i64 rs.length,.slice (some ⟨xb,0,none⟩) 1 1] w fun e w' => ∃ v',e = .returned v' /\ OwnR 6 47 base w' v' (rs ++ [x.cells.toList]) /\ w.grownBy w' v.ownBlock /\ ∃ g,v'.ownBlock = some g /\ (v.ownBlock = some g \/ g = w.heap.size):=by
 have HRC : Hid (∀ (i : Nat) (r : List Value) (j : Nat) (u : Value),[x.cells.toList][i]? = some r -> r[j]? = some u -> w.cell? ⟨xb,0 + (i * 6 + j),none⟩ = some u):=Lib.hid fun i r j u hi hj => row_cellV hx hi hj
 have hrow:=vv_row x h1
 obtain ⟨n,hn⟩ : ∃ n,rs.length = n:=⟨_,rfl⟩
 obtain ⟨R,hR⟩ : ∃ R,x.cells.toList = R:=⟨_,rfl⟩
 have hRl : ([R] : List (List Value)).length = 1:=rfl
 rw [hR] at HRC hrow ⊢
 have HN:=Lib.hid hn
 have HOWN:=Lib.hid hown
 have HROW:=Lib.hid hrow
 have hnn : ((n : Int) == (n : Int)) = true:=by simp
 clear hn
 rcases hown.1.2 with ⟨rfl,h0⟩ | ⟨g,cap,cur,rfl,hb,hg,hnc,hm,hs,ht⟩
 ·rw [HN.out] at h0 hbig ⊢
  subst h0
  clear hown hrow hx h1 hR
  go_enter Tryz.func146,Tryz.ntmps146
  go_wp2_with (at_builtin; refine wpList_append_rows rfl (.tmp 23) (.tmp 24) 50 rfl Tryz.underlying50 Tryz.infoValG (by kernel_rfl) (by decide) rfl HOWN.out (b:=xb) (off:=0) (m:=1) (cap:=1) (ms:=[R]) rfl rfl HROW.out HRC.out (by decide) (by rw [HN.out]; simp [maxLen]) (by rw [HN.out]; omega) hbase ?_; intro g1 cap1 w5 hown5 hg5 hat5)
  all_goals go_wp2_with fail
  all_goals go_ret
  all_goals
   exact ⟨_,rfl,hown5,hg5,g1,rfl,hat5⟩
 ·rw [HN.out] at hnc HOWN hbig ⊢
  unfold maxLen at hm
  clear hown hrow hx h1 hR ht hs hg
  go_enter Tryz.func146,Tryz.ntmps146
  go_wp2_with (at_builtin; refine wpList_append_rows rfl (.tmp 23) (.tmp 24) 50 rfl Tryz.underlying50 Tryz.infoValG (by kernel_rfl) (by decide) rfl HOWN.out (b:=xb) (off:=0) (m:=1) (cap:=1) (ms:=[R]) rfl rfl HROW.out HRC.out (by decide) (by rw [HN.out]; simp [maxLen]; omega) (by rw [HN.out]; omega) hbase ?_; intro g1 cap1 w5 hown5 hg5 hat5)
  all_goals go_wp2_with fail
  all_goals go_ret
  all_goals
   exact ⟨_,rfl,hown5,hg5,g1,rfl,hat5⟩
theorem insertV_any (base i xb : Nat) (v : Value) (rs : List (List Value)) (x : Vv) (w : World) (hown : OwnR 6 47 base w v rs) (hi : i <= rs.length) (hbig : rs.length <= 2 ^ 20) (hbase : base <= w.heap.size) (hx : Blk w xb x.cells 47)
  (h1 : ∀ u ∈ x.cells.toList,u.oneCell' = true) (hne : v.ownBlock ≠ some xb) :
  Calls Tryz.prog 146 #[v,.int .i64 i,.slice (some ⟨xb,0,none⟩) 1 1] w fun e w' => ∃ v',e = .returned v' /\ OwnR 6 47 base w' v' (insR rs i x.cells.toList) /\ w.grownBy w' v.ownBlock /\ ∃ g,v'.ownBlock = some g /\ (v.ownBlock = some g \/ g = w.heap.size):=by
 by_cases he : i = rs.length
 ·subst he
  rw [insR_end]
  exact insertV_end base xb v rs x w hown hbig hbase hx h1
 ·have hlt : i < rs.length:=by omega
  rcases hown.1.2 with ⟨rfl,h0⟩ | ⟨g,cap,cur,rfl,hb,hg,hnc,hm,hs,ht⟩
  ·omega
  ·have hne' : xb ≠ g:=fun e => hne (by simp [Value.ownBlock,e])
   have hlr:=insR_length (r:=x.cells.toList) hi
   by_cases hroom : rs.length + 1 <= cap
   ·refine (insertV_room base g rs.length cap i xb cur rs x w hg hs ht hown.2 rfl hlt hroom hm hx h1 hne').mono ?_
    rintro e w' ⟨rfl,⟨cur',hq,hsz,htk⟩,hgr⟩
    refine ⟨_,rfl,⟨⟨by rw [flat_length (insR_ok hown.2 (vv_row x h1))],.inr ⟨g,cap,cur',by rw [hlr],hb,hq,by omega,hm,hsz,by rw [hlr]; exact htk⟩⟩,insR_ok hown.2 (vv_row x h1)⟩,hgr,g,rfl,.inl rfl⟩
   ·obtain rfl : cap = rs.length:=by omega
    refine (insertV_grow base g rs.length i xb cur rs x w hg hs ht hown.2 rfl hlt hbig hx h1).mono ?_
    rintro e w' ⟨G,rfl,hG1,hG2,⟨cur',hq,hsz,htk⟩,hgr⟩
    refine ⟨_,rfl,⟨⟨by rw [flat_length (insR_ok hown.2 (vv_row x h1))],.inr ⟨w.heap.size,G,cur',by rw [hlr],hbase,hq,by omega,hG2,hsz,by rw [hlr]; exact htk⟩⟩,insR_ok hown.2 (vv_row x h1)⟩,⟨hgr.os,hgr.tape,hgr.output,hgr.size,fun k hk _ => hgr.block k hk (by simp)⟩,w.heap.size,rfl,.inr rfl⟩
def InsPost (base sb so : Nat) (cv : Value) (l : List Vq) (v : Vq) (rs : List (List Value)) (w : World) (e : Ending) (w' : World) : Prop :=
 (insC l v = none /\ e = .returned (.bool false) /\ Below w.heap.size w w') \/ (fnd l v = true /\ e = .returned (.bool true) /\ Below w.heap.size w w') ∨
 (fnd l v = false /\ l.length ≠ 32 /\ e = .returned (.bool true) /\ ∃ (z : Vv) (cv' : Value) (W5 : World) (g hi : Nat),w' = W5.setCell ⟨sb,so + 10,none⟩ cv' /\ OwnR 6 47 base W5 cv' (insR rs (srch l v) z.cells.toList) /\ w.grownBy W5 cv.ownBlock ∧
  Zed (Btw w.heap.size hi) W5 (fun K W => VlX K W v z) /\ w.heap.size <= hi /\ hi <= W5.heap.size /\ cv'.ownBlock = some g /\ (cv.ownBlock = some g \/ hi <= g))
theorem ginsert_any (K base sb so : Nat) (cv : Value) (l : List Vq) (kd : Int) (v : Vq) (x : Vv) (rs : List (List Value)) (w : World) (hl : CutsX K w cv l) (hown : OwnR 6 47 base w cv rs) (hrl : rs.length = l.length) (hv : VlX K w v x)
  (hvo : v.good = true) (hvo1 : v.ok = true) (hvk : v.kd = kd) (ho : CutsOk kd l) (hlen : l.length <= 32) (hK : K <= w.heap.size) (hbase : base <= w.heap.size) (hs : w.cell? ⟨sb,so + 10,none⟩ = some cv) (hfz : w.frozen? ⟨sb,so + 10,none⟩ = false) (hne : cv.ownBlock ≠ some sb) :
  Calls Tryz.prog 99 #[.pointer (some ⟨sb,so,none⟩),x.agg] w (InsPost base sb so cv l v rs w):=by
 have hsb : sb < w.heap.size:=block_lt_of_cell hs
 have bW : Below w.heap.size w (w.alloc (.cells x.cells 47)):=(Below.refl _ _).alloc (Nat.le_refl _) _
 have qW : Blk (w.alloc (.cells x.cells 47)) w.heap.size x.cells 47:=Blk.new w _ _
 have hsr:=gsearch_any w.heap.size sb so cv l kd v x (w.alloc (.cells x.cells 47)) (hl.below bW hK hK) (hv.below bW hK hK) ho hvo hvo1 hvk (by simp) ((bW.cell (p:=⟨sb,so + 10,none⟩) hsb).trans hs) (by simp; omega) (by omega)
 have HS:=Lib.hid hs
 have HF:=Lib.hid hfz
 have HV:=Lib.hid hv
 have HOWN:=Lib.hid hown
 have HRL:=Lib.hid hrl
 have HNE:=Lib.hid hne
 have HG:=Lib.hid hvo
 have HBW:=Lib.hid bW
 have HQW:=Lib.hid qW
 obtain ⟨ca,cn,hcv,_⟩:=hl.form
 have HSL:=Lib.hid (srch_le l v)
 have HINS : Hid (insC l v = if fnd l v then some l else if l.length = 32 then none else some (l.take (srch l v) ++ v :: l.drop (srch l v))):=Lib.hid rfl
 have HP : Hid (∀ e w',((insC l v = none /\ e = .returned (.bool false) /\ Below w.heap.size w w') \/ (fnd l v = true /\ e = .returned (.bool true) /\ Below w.heap.size w w') ∨
  (fnd l v = false /\ l.length ≠ 32 /\ e = .returned (.bool true) /\ ∃ (z : Vv) (cv' : Value) (W5 : World) (g hi : Nat),w' = W5.setCell ⟨sb,so + 10,none⟩ cv' /\ OwnR 6 47 base W5 cv' (insR rs (srch l v) z.cells.toList) /\ w.grownBy W5 cv.ownBlock ∧
  Zed (Btw w.heap.size hi) W5 (fun K W => VlX K W v z) /\ w.heap.size <= hi /\ hi <= W5.heap.size /\ cv'.ownBlock = some g /\ (cv.ownBlock = some g \/ hi <= g))) -> InsPost base sb so cv l v rs w e w'):=Lib.hid fun _ _ h => h
 obtain ⟨f,hf⟩ : ∃ f,fnd l v = f:=⟨_,rfl⟩
 obtain ⟨r,hr⟩ : ∃ r,srch l v = r:=⟨_,rfl⟩
 obtain ⟨n,hn⟩ : ∃ n,l.length = n:=⟨_,rfl⟩
 rw [hf,hr] at hsr
 rw [hf,hr,hn] at HP
 rw [hf,hn] at HINS
 rw [hr,hn] at HSL
 rw [hn] at HRL hlen hcv
 subst hcv
 have hx1 : x.s1.oneCell' = true /\ x.s2.oneCell' = true:=by
  obtain ⟨_,_,h1,_⟩:=hv.n.form
  obtain ⟨_,_,h2,_⟩:=hv.d.form
  rw [h1,h2]; exact ⟨rfl,rfl⟩
 clear hl hown hrl hv hvo hvo1 hvk ho hs hfz hne bW qW hf hr hn
 obtain ⟨kx,m1,x1,m2,x2,xi⟩:=x
 dsimp only at hx1
 obtain ⟨hx1,hx2⟩:=hx1
 go_enter Tryz.func99,Tryz.ntmps99
 go_wp2_with fail
 refine hsr.mono ?_
 rintro e w2 ⟨rfl,hb2⟩
 clear hsr
 have b2 : Below w.heap.size w w2:=HBW.out.trans (hb2.mono (by simp))
 have q2:=HQW.out.below hb2 (by simp)
 have c2 : w2.cell? ⟨sb,so + 10,none⟩ = some (.slice ca n cn):=(b2.cell (p:=⟨sb,so + 10,none⟩) hsb).trans HS.out
 cases f with
 | true =>
  go_wp2_with fail
  go_ret
  exact HP.out _ _ (.inr (.inl ⟨by simp,rfl,b2⟩))
 | false =>
  by_cases h32 : n = 32
  ·have hi:=HINS.out
   rw [if_neg (by simp),if_pos h32] at hi
   have HI:=Lib.hid hi
   subst h32
   clear hi
   go_wp2_with fail
   go_ret
   exact HP.out _ _ (.inl ⟨HI.out,rfl,b2⟩)
  ·have h32' : ((n : Int) == 32) = false:=by simp; omega
   have H32:=Lib.hid h32
   have hs2:=b2.size
   have q2lt:=q2.lt
   clear h32
   go_upto_region 6 with fail
   have HC2:=Lib.hid c2
   have HQ2:=Lib.hid q2
   clear c2 q2
   refine region_plain (fun W' => W'.cell? ⟨sb,so + 10,none⟩ = some (.slice ca n cn) /\ Blk W' w.heap.size #[.int .u8 kx,.bool m1,x1,.bool m2,x2,.int .i64 xi] 47) [12] (by kernel_rfl) ?_
   have qS : (fun W' : World => W'.cell? ⟨sb,so + 10,none⟩ = some (.slice ca n cn) /\ Blk W' w.heap.size #[.int .u8 kx,.bool m1,x1,.bool m2,x2,.int .i64 xi] 47) w2.drew:=⟨HC2.out,HQ2.out⟩
   refine wpAnyD_takeC [12,11,10] (i:=0) (v:=.pointer (some ⟨sb,so,none⟩)) rfl (by kernel_rfl) (by kernel_rfl) (by kernel_rfl) (by kernel_rfl) (by kernel_rfl) (by kernel_rfl) (fun _ _ _ h => h) (.inl ⟨by kernel_rfl,fun W' hS => by go_simp⟩) qS ?_
   refine wpAnyD_takeC [12,9,4,3,2] (i:=1) (v:=.pointer (some ⟨sb,so,none⟩)) rfl (by kernel_rfl) (by kernel_rfl) (by kernel_rfl) (by kernel_rfl) (by kernel_rfl) (by kernel_rfl) (fun _ _ _ h => h) (.inl ⟨by kernel_rfl,fun W' hS => by go_simp⟩) qS ?_
   refine wpAnyD_takeC [12,9,4,3] (i:=2) (v:=.pointer (some ⟨sb,so,none⟩)) rfl (by kernel_rfl) (by kernel_rfl) (by kernel_rfl) (by kernel_rfl) (by kernel_rfl) (by kernel_rfl) (fun _ _ _ h => h) (.inl ⟨by kernel_rfl,fun W' hS => by go_simp⟩) qS ?_
   refine wpAnyD_takeC [12,9,4] (i:=3) (v:=.pointer (some ⟨sb,so + 10,none⟩)) rfl (by kernel_rfl) (by kernel_rfl) (by kernel_rfl) (by kernel_rfl) (by kernel_rfl) (by kernel_rfl) (fun _ _ _ h => h) (.inl ⟨by kernel_rfl,fun W' hS => by go_simp⟩) qS ?_
   refine wpAnyD_takeC [12,9] (i:=4) (v:=.slice ca n cn) rfl (by kernel_rfl) (by kernel_rfl) (by kernel_rfl) (by kernel_rfl) (by kernel_rfl) (by kernel_rfl) (fun _ _ _ h => h) (.inl ⟨by kernel_rfl,fun W' hS => by have d:=hS.1; go_simp⟩) qS ?_
   refine wpAnyD_takeC [12,9] (i:=5) (v:=.int .i64 r) rfl (by kernel_rfl) (by kernel_rfl) (by kernel_rfl) (by kernel_rfl) (by kernel_rfl) (by kernel_rfl) (fun _ _ _ h => h) (.inl ⟨by kernel_rfl,fun W' hS => by go_simp⟩) qS ?_
   refine wpAnyD_takeC [12,9,8,7] (i:=6) (v:=.agg #[.int .u8 kx,.bool m1,x1,.bool m2,x2,.int .i64 xi]) rfl (by kernel_rfl) (by kernel_rfl) (by kernel_rfl) (by kernel_rfl) (by kernel_rfl) (by kernel_rfl) (fun _ _ _ h => h) (.inl ⟨by kernel_rfl,fun W' hS => by obtain ⟨d0,d1,d2,d3,d4,d5⟩:=hS.2.six; go_simp⟩) qS ?_
   refine wpAnyD_one (i:=7) (by kernel_rfl) rfl (by kernel_rfl) ?_
   go_simp
   have hcp:=copyValue_any K v ⟨kx,m1,x1,m2,x2,xi⟩ w2.drew (HV.out.below (below_quiet b2) hK (Nat.le_refl _)) HG.out (by show K <= w2.heap.size; omega)
   refine hcp.mono ?_
   rintro en w3 ⟨z,rfl,hz3,hb3⟩
   have b3 : Below w.heap.size w w3:=(below_quiet b2).trans (hb3.mono hs2)
   have qS3 : w3.cell? ⟨sb,so + 10,none⟩ = some (.slice ca n cn) /\ Blk w3 w.heap.size #[.int .u8 kx,.bool m1,x1,.bool m2,x2,.int .i64 xi] 47:=⟨(hb3.cell (p:=⟨sb,so + 10,none⟩) (by show sb < w2.heap.size; omega)).trans qS.1,qS.2.below hb3 q2lt⟩
   have hzg:=hz3.get fun b hb => hb.2
   obtain ⟨za,zc,hz1,_⟩:=hzg.n.form
   obtain ⟨ya,yc,hz2,_⟩:=hzg.d.form
   have h1z : ∀ u ∈ z.cells.toList,u.oneCell' = true:=fun u hu => vl_one z (by rw [hz1]; rfl) (by rw [hz2]; rfl) u (Array.mem_toList_iff.1 hu)
   have HZ3:=Lib.hid hz3
   have H1Z:=Lib.hid h1z
   have HB3:=Lib.hid b3
   have hs3 : w2.heap.size <= w3.heap.size:=hb3.size
   clear hcp hz3 hzg h1z hb3 b3
   obtain ⟨zk,zb1,zs1,zb2,zs2,zi⟩:=z
   dsimp only at hz1 hz2
   subst hz1 hz2
   refine ⟨qS3,?_⟩
   refine wpAnyD_one (i:=8) (by kernel_rfl) rfl (by kernel_rfl) ?_
   go_simp
   have qS4 : (w3.alloc (.cells (⟨zk,zb1,.slice za v.l1.length zc,zb2,.slice ya v.l2.length yc,zi⟩ : Vv).cells 47)).cell? ⟨sb,so + 10,none⟩ = some (.slice ca n cn):=(Below.cell ((Below.refl w3.heap.size w3).alloc (Nat.le_refl _) _) (p:=⟨sb,so + 10,none⟩) (by show sb < w3.heap.size; omega)).trans qS3.1
   have b4 : Below w.heap.size w (w3.alloc (.cells (⟨zk,zb1,.slice za v.l1.length zc,zb2,.slice ya v.l2.length yc,zi⟩ : Vv).cells 47)):=HB3.out.alloc (by omega) _
   have hci:=insertV_any base r w3.heap.size (.slice ca n cn) rs ⟨zk,zb1,.slice za v.l1.length zc,zb2,.slice ya v.l2.length yc,zi⟩ (w3.alloc (.cells (⟨zk,zb1,.slice za v.l1.length zc,zb2,.slice ya v.l2.length yc,zi⟩ : Vv).cells 47)) (HOWN.out.old b4 (Nat.le_refl _)) (by rw [HRL.out]; exact HSL.out) (by rw [HRL.out]; omega) (by simp; omega) (Blk.new w3 _ _) H1Z.out (fun e => by have := HOWN.out.lt e; omega)
   have HB4:=Lib.hid b4
   clear b4
   refine ⟨⟨qS4,qS3.2.alloc _⟩,?_⟩
   refine wpAnyD_one (i:=9) (by kernel_rfl) rfl (by kernel_rfl) ?_
   go_simp
   refine hci.mono ?_
   rintro en w5 ⟨v',rfl,hown5,hg5,g,hvg,hat⟩
   clear hci
   have hsz5:=hg5.size
   rw [World.size_alloc] at hsz5
   have hk5 : ∀ b,b < w3.heap.size + 1 -> (Value.slice ca n cn).ownBlock ≠ some b -> w5.heap[b]? = (w3.alloc (.cells (⟨zk,zb1,.slice za v.l1.length zc,zb2,.slice ya v.l2.length yc,zi⟩ : Vv).cells 47)).heap[b]? := fun b hb hne => hg5.block b (by rw [World.size_alloc]; exact hb) (fun e => hne e.symm)
   have c5 : w5.cell? ⟨sb,so + 10,none⟩ = some (.slice ca n cn):=(World.cell?_of_block (hk5 sb (by omega) HNE.out)).trans qS4
   have f5 : w5.frozen? ⟨sb,so + 10,none⟩ = false:=(World.frozen?_of_block (a:=⟨sb,so + 10,none⟩) (hk5 sb (by omega) HNE.out)).trans ((HB4.out.frozen (p:=⟨sb,so + 10,none⟩) hsb).trans HF.out)
   have q5 : Blk w5 w.heap.size #[.int .u8 kx,.bool m1,x1,.bool m2,x2,.int .i64 xi] 47:=(hk5 w.heap.size (by omega) (fun e => by have := HOWN.out.lt e; omega)).trans (qS3.2.alloc _)
   obtain ⟨va,vn,hv5,_⟩:=hown5.form
   rw [insR_length (by rw [HRL.out]; exact HSL.out),HRL.out] at hv5
   subst hv5
   have HO5:=Lib.hid hown5
   have HG5:=Lib.hid hg5
   have HVG:=Lib.hid hvg
   have HAT:=Lib.hid hat
   clear hown5 hg5 hk5 qS4 hvg hat
   refine ⟨⟨c5,q5⟩,?_⟩
   have HQ5:=Lib.hid q5
   have HC5:=Lib.hid c5
   clear q5 c5
   refine wpAnyD_one (i:=10) (by kernel_rfl) rfl (by kernel_rfl) ?_
   go_simp
   refine ⟨⟨HC5.out,HQ5.out⟩,?_⟩
   refine wpAnyD_one (i:=11) (by kernel_rfl) rfl (by kernel_rfl) ?_
   go_simp
   refine ⟨⟨HC5.out,HQ5.out⟩,?_⟩
   have c5:=HC5.out
   refine wpAnyD_one (i:=12) (by kernel_rfl) rfl (by kernel_rfl) ?_
   go_simp
   refine wpAnyD_done (by kernel_rfl) ?_ _
   clear c5 f5
   go_wp2_with fail
   go_ret
   have hlz : ∀ q,(Value.slice ca n cn).ownBlock = some q -> q < w.heap.size:=fun q h => HOWN.out.lt h
   refine HP.out _ _ (.inr (.inr ⟨by simp,H32.out,rfl,⟨zk,zb1,.slice za v.l1.length zc,zb2,.slice ya v.l2.length yc,zi⟩,.slice va (n + 1) vn,w5,g,w3.heap.size,rfl,HO5.out,?_,?_,by omega,by omega,HVG.out,?_⟩))
   ·have h1:=HB4.out
    have h2:=HG5.out
    exact ⟨h2.os.trans h1.os,h2.tape.trans h1.tape,h2.output.trans h1.output,Nat.le_trans h1.size h2.size,fun k hk hne => (h2.block k (by have := h1.size; omega) hne).trans (h1.block k hk)⟩
   ·have h1:=(HZ3.out.mono (btw_low (lo':=w.heap.size) (by show w.heap.size <= w2.heap.size; omega))).move (w':=w5) (Agr.of fun b hb => (HG5.out.block b (by rw [World.size_alloc]; have := hb.2; omega) (fun e => by have := hlz b e.symm; have := hb.1; omega)).trans (Below.heap_alloc _ _ _ hb.2))
    exact h1
   ·rcases HAT.out with h | h
    ·exact .inl h
    ·exact .inr (by rw [h,World.size_alloc]; omega)
end Go.Proofs.YtlidpghnlloinaaGreatDoor
