/- Contracts and plain laws, several texts in one (GIns, GIns2, GIns3, GIns4). No conditions beyond those stated. -/
import Derived.Laws.NewBlocks
import Derived.Test.YtlldjmagbjjeoaaGreatDoorPk17
import Derived.Test.YtlldjmagbjjeoaaGreatDoorPk20
set_option maxRecDepth 100000
set_option maxHeartbeats 40000000
namespace Go.Proofs.YtlldjmagbjjeoaaGreatDoor
open Go.RowKit
set_option linter.unusedVariables false
theorem qad:(Tryz.prog.info? 41).map (fun i=>i.size)=some 6:=by kernel_rfl
theorem Tryz.infoValG:(Tryz.prog.info? 41).map (fun i=>(i.zero,i.size,i.bytes))=some (some vv0.agg,6,80):=by kernel_rfl
theorem zou (w:World) (a b ao bo la ca lb cb:Nat) (A B:Array Value) (hA:Blk w a A 41) (hB:Blk w b B 41) (At:a≠b) (Pi:B.size≠0) :
  (callFunc 94 #[.slice (some ⟨a,ao,none⟩) la ca,.slice (some ⟨b,bo,none⟩) lb cb]).run Tryz.prog w=.ok (.value (.bool false)) w:=by
 have X0:w.shape? a=some (41,A.size):=by unfold World.shape?;rw[hA]
 have Hw:w.shape? b=some (41,B.size):=by unfold World.shape?;rw[hB]
 rw[run_callFunc_extern Tryz.func94 (by kernel_rfl) (by kernel_rfl) (by kernel_rfl) (e:=Extern.SlicesOverlaps.overlaps #[44,44] #[4]) (by kernel_rfl),
  Lib.run_overlaps_apart w 44 4 41 Tryz.underlying44 6 Tryz.sizeOf41 ⟨a,ao,none⟩ ⟨b,bo,none⟩ la ca lb cb At 41 41 A.size B.size X0 Hw Pi (hA.free _) (hA.free _)]
 rfl
theorem zw3 (base g n cap i xb:Nat) (cur:Array Value) (rs:List (List Value)) (x:Vv) (w:World) (hq:Blk w g cur 41) (Dn:cur.size=cap*6) (f9:cur.toList.take (n*6)=rs.flatten) (Ay:Dg 6 rs) (hl:rs.length=n)
  (hi:i<n) (qxv:n+1<=cap) (Fl:cap<=maxLen) (hx:Blk w xb x.cells 41) (h1:∀ u∈x.cells.toList,u.oneCell'=true) (At:xb≠g) :
  Calls Tryz.prog 58 #[.slice (some ⟨g,0,none⟩) n cap,.int .i64 i,.slice (some ⟨xb,0,none⟩) 1 1] w fun e w'=>e=.returned (.slice (some ⟨g,0,none⟩) (n+1) cap) ∧
   (∃ cur',Blk w' g cur' 41/\cur'.size=cap*6/\cur'.toList.take ((n+1)*6)=(Tt rs i x.cells.toList).flatten)/\w.grownBy w' (some g):=by
 have Ut:=C3 Ay;rw[hl]at Ut
 have Is:∀ lb cb,(callFunc 94 #[.slice (some ⟨xb,0,none⟩) 1 1,.slice (some ⟨g,(i+1)*6,none⟩) lb cb]).run Tryz.prog w=.ok (.value (.bool false)) w:=fun lb cb=>zou w xb g 0 _ 1 1 lb cb _ _ hx hq At (by omega)
 unfold maxLen at Fl;obtain⟨cs1,I2⟩:=Ae (rs.flatten.drop (i*6))
 have Ba:cs1.length=(n-i)*6:=by rw[<- I2,List.length_drop,Ut];omega
 obtain⟨cur1,dV⟩:=Ae ((cur.toList.take ((i+1)*6)++cs1++cur.toList.drop ((i+1)*6+cs1.length)).toArray);obtain⟨cur2,gN⟩:=Ae ((cur1.toList.take (i*6)++x.cells.toList++cur1.toList.drop (i*6+x.cells.toList.length)).toArray)
 have Cp:cur1.size=cap*6:=by
  rw[<- dV,List.size_toArray];simp only[List.length_append,List.length_take,List.length_drop,Array.length_toList,Dn,Ba];omega
 have Az:cur2.size=cap*6:=by
  rw[<- gN,List.size_toArray];simp only[List.length_append,List.length_take,List.length_drop,Array.length_toList,Cp];simp only[List.length_cons,List.length_nil];omega
 have Oa:∀ (j:Nat) (u:Value),rs.flatten[j]?=some u->w.cell? ⟨g,j,none⟩=some u:=fun j u hj=>by
  refine hq.at ?_;rw[<- f9,List.getElem?_take]at hj
  split at hj
  ·rw[<- Array.getElem?_toList];exact hj
  ·cases hj
 have Bd:∀ v∈cs1,v.oneCell'=true:=fun v hv=>by
  rw[<- I2]at hv;have := List.mem_of_mem_drop hv;rw[List.mem_flatten]at this;obtain⟨r,hr,hv⟩:=this;exact(Ay r hr).2 v hv
 have uH:∀ ty dc sc,(Builtin.copy_ #[44,44] ty #[.slice (some ⟨g,(i+1)*6,none⟩) (n+1-(i+1)) dc,.slice (some ⟨g,i*6,none⟩) (n+1-i) sc]).run Tryz.prog w.drew=.ok (goInt (n-i:Nat)) (w.drew.setRow g cur1):=fun ty dc sc=>by
  have Xr:Nat.min (n+1-i) (n+1-(i+1))=n-i:=by simp only[Nat.min_def];split<;>omega
  have := qai w.drew 44 44 ty 41 6 g ((i+1)*6) (n+1-(i+1)) dc ⟨g,i*6,none⟩ (n+1-i) sc cur 41 cs1 Tryz.underlying44 qad hq (by rw[Xr,Ba])
   (fun j v hj=>by rw[cY];exact Oa _ v (by rw[<- I2,List.getElem?_drop]at hj;exact hj)) (by rw[Ba,Dn];omega) Bd
  rw[Xr,dV]at this;exact this
 have bR:∀ (W:World),Blk W g cur1 41->Blk W xb x.cells 41->∀ ty dc,(Builtin.copy_ #[44,44] ty #[.slice (some ⟨g,i*6,none⟩) (n+1-i) dc,.slice (some ⟨xb,0,none⟩) 1 1]).run Tryz.prog W=.ok (goInt (1:Nat)) (W.setRow g cur2):=fun W Ah Ax ty dc=>by
  have Xr:Nat.min 1 (n+1-i)=1:=by simp only[Nat.min_def];split<;>omega
  have := qai W 44 44 ty 41 6 g (i*6) (n+1-i) dc ⟨xb,0,none⟩ 1 1 cur1 41 x.cells.toList Tryz.underlying44 qad Ah (by rw[Xr];rfl)
   (fun j v hj=>by rw[cY];exact Ax.at (by rw[Nat.zero_add];simpa using hj)) (by rw[Cp];simp only[List.length_cons,List.length_nil];omega) h1
  rw[Xr,gN]at this;exact this
 have Ft:((i:Int)==(n:Int))=false:=by simp;omega
 have Od:decide ((cap:Int)<(n:Int)+1)=false:=by simp;omega
 have Dp:¬ cap=i:=by omega
 have Zc:¬ cap=i+1:=by omega
 have Rc:i<=n:=by omega
 have qli:=Aa uH;have lZ:=Aa bR;have HX:=Aa hx;have HQ:=Aa hq;have Mu:=Aa hl;have dG:=Aa I2;clear uH bR Oa Bd I2 Ba hx hq Ut hl;go_enter Tryz.func58,Tryz.ntmps58
 go_upto_region 14 with fail
 go_wp2_with (simp only[Is])
 have nQ:((i:Int)+1).toNat=i+1:=by omega
 have Bp:(0:Int)<=(i:Int)+1:=by omega
 have Ak:(i:Int)+1<=(n:Int)+1:=by omega
 have Al:i<=n+1:=by omega
 have Aq:(i:Int)<=(n:Int)+1:=by omega
 have Bk:¬ ((n:Int)+1<(i:Int)):=by omega
 have Kw:IntKind.i64.wrap ((i:Int)+1)=(i:Int)+1:=by rw[IntKind.wrap_i64];omega
 refine Fz (fun _=>True) [] (by kernel_rfl) ?_;have qS:(fun _:World=>True) w.drew:=trivial;refine Am (i:=0) (v:=.slice (some ⟨g,0,none⟩) (n+1) cap) rfl qS ?_;refine Am (i:=1) (v:=.int .i64 i) rfl qS ?_;refine Am (i:=2) (v:=.int .i64 1) rfl qS ?_;refine Am (i:=3) (v:=.int .i64 ((i:Int)+1)) rfl qS ?_;refine Am (i:=4) (v:=.slice (some ⟨g,(i+1)*6,none⟩) (n+1-(i+1)) (cap-(i+1))) rfl qS ?_;refine Am (i:=5) (v:=.slice (some ⟨g,0,none⟩) (n+1) cap) rfl qS ?_;refine Am (i:=6) (v:=.int .i64 i) rfl qS ?_;refine Am (i:=7) (v:=.slice (some ⟨g,i*6,none⟩) (n+1-i) (cap-i)) rfl qS ?_;refine Ap (i:=8) rfl ?_;refine o5 _ _ _ 44 44 rfl (.slice (some ⟨g,(i+1)*6,none⟩) (n+1-(i+1)) (cap-(i+1))) (.slice (some ⟨g,i*6,none⟩) (n+1-i) (cap-i)) (by simp[Act.eval,Act.put]) (by simp[Act.eval,Act.put]) (qli.out _ _ _) ?_;refine⟨fun _=>trivial,?_⟩;refine Eo (by kernel_rfl) ?_ _;have Lv:Blk (w.drew.setRow g cur1) g cur1 41:=setRow_heap w.drew g cur cur1 41 _ HQ.out;have Ck:Blk (w.drew.setRow g cur1) xb x.cells 41:=(setRow_other w.drew g xb cur1 At).trans HX.out;obtain⟨W1,Ah⟩:=Ae (w.drew.setRow g cur1);rw[Ah]at Lv Ck ⊢;have Dk:=Aa Ah;have Gh:=Aa (lZ.out W1 Lv Ck);clear Ah;go_simp
 go_upto_region 16 with fail
 iterate 13 go_step
 refine wpList_plain rfl fun _ Hb=>o5 W1 _ _ 44 44 rfl (.slice (some ⟨g,i*6,none⟩) (n+1-i) (cap-i)) (.slice (some ⟨xb,0,none⟩) 1 1) (by simp[Act.eval]) (by simp[Act.eval]) (Gh.out _ _) (Hb _ _ ?_)
 go_wp2_with fail
 go_ret
 have oP:(W1.setRow g cur2).heap.size=w.heap.size:=by rw[<- Dk.out];simp[World.setRow]
 refine⟨by simp,⟨cur2,setRow_heap W1 g cur1 cur2 41 _ Lv,Az,?_⟩,⟨by rw[<- Dk.out];rfl,by rw[<- Dk.out];rfl,by rw[<- Dk.out];rfl,by omega,fun k _ hk=>?_⟩⟩
 ·rw[qoy Ay]
  refine zdn (c:=6) (n:=n) (i:=i) (cur1:=cur1.toList) f9 (by have := C3 Ay;rw[Mu.out]at this;exact this) Rc rfl ?_ ?_ (by rw[Array.length_toList,Dn];omega)
  ·rw[<- dV,dG.out]
  ·rw[<- gN]
 ·have qzz:k≠g:=fun e=>hk (by rw[e])
  rw[setRow_other W1 g k cur2 qzz,<- Dk.out,setRow_other w.drew g k cur1 qzz]
  rfl
theorem zw1 (base g n i xb:Nat) (cur:Array Value) (rs:List (List Value)) (x:Vv) (w:World) (hq:Blk w g cur 41) (Dn:cur.size=n*6) (f9:cur.toList.take (n*6)=rs.flatten) (Ay:Dg 6 rs) (hl:rs.length=n)
  (hi:i<n) (Dr:n<=2^20) (hx:Blk w xb x.cells 41) (h1:∀ u∈x.cells.toList,u.oneCell'=true) :
  Calls Tryz.prog 58 #[.slice (some ⟨g,0,none⟩) n n,.int .i64 i,.slice (some ⟨xb,0,none⟩) 1 1] w fun e w'=>∃ G,e=.returned (.slice (some ⟨w.heap.size,0,none⟩) (n+1) G)/\n+1<=G/\G<=maxLen ∧
   (∃ cur',Blk w' w.heap.size cur' 41/\cur'.size=G*6/\cur'.toList.take ((n+1)*6)=(Tt rs i x.cells.toList).flatten)/\w.grownBy w' none:=by
 have Ut:=C3 Ay;rw[hl]at Ut;obtain⟨i0,Jo,Cz,Vb,jH⟩:=info_parts Tryz.infoValG;have xH:=hq.lt;have Pq:=hx.lt;obtain⟨N,hN⟩:=Ae w.heap.size;rw[hN]at xH Pq ⊢;obtain⟨G,hG⟩:=Ae (grownCap w (n+1) n 41)
 have zit:n+1<=G:=by rw[<- hG];exact grownCap_ge w _ _ _
 have qyg:G<=maxLen:=by rw[<- hG];exact grownCap_le_maxLen w (n+1) n 41 (by unfold maxLen;omega)
 have Oa:∀ (j:Nat) (u:Value),rs.flatten[j]?=some u->w.cell? ⟨g,j,none⟩=some u:=fun j u hj=>by
  refine hq.at ?_;rw[<- f9,List.getElem?_take]at hj
  split at hj
  ·rw[<- Array.getElem?_toList];exact hj
  ·cases hj
 have Bd:∀ v∈rs.flatten,v.oneCell'=true:=fun v hv=>by
  rw[List.mem_flatten]at hv;obtain⟨r,hr,hv⟩:=hv;exact(Ay r hr).2 v hv
 obtain⟨ROW,wW⟩:∃ ROW:Array Value,(rs.flatten.take (i*6)).toArray++Builtin.zeroCells vv0.agg.cells (n+1-i)++Builtin.zeroCells vv0.agg.cells (G-(n+1))=ROW:=⟨_,rfl⟩
 have J1:ROW.size=G*6:=by
  rw[<- wW];simp[Builtin.zeroCells,Value.cells,Ut];omega
 have qot:ROW.toList.take (i*6)=rs.flatten.take (i*6):=by
  rw[<- wW,Array.toList_append,Array.toList_append,List.append_assoc,List.take_append_of_le_length (by rw[List.length_take,Ut];omega),List.take_of_length_le (by rw[List.length_take,Ut];omega)]
 have qk0:∀ ty,(Builtin.append_ #[44,3] ty #[.slice (some ⟨g,0,none⟩) i n,.int .i64 ((n:Int)+1-(i:Int))]).run Tryz.prog w=.ok (.slice (some ⟨N,0,none⟩) (n+1) G) (w.drew.alloc (.cells ROW 41)):=fun ty=>by
  have qay:(Builtin.firstCells i0.size i (.slice (some ⟨g,0,none⟩) i n)).run Tryz.prog w.drew=.ok (rs.flatten.take (i*6)).toArray w.drew:=by
   rw[Vb]
   exact run_firstCells_some w.drew 6 i ⟨g,0,none⟩ i n (rs.flatten.take (i*6)) (by rw[List.length_take,Ut];omega) (fun j v hj=>by
    rw[cY,Nat.zero_add];rw[List.getElem?_take]at hj
    split at hj
    ·exact Oa j v hj
    ·cases hj)
  have P3:i+(n+1-i)=n+1:=by omega
  have h:=Lib.run_append_grow_zeros w 44 3 ty 41 i0 _ .i64 .i64 Tryz.underlying44 Tryz.underlying3 Jo Cz (some ⟨g,0,none⟩) i n (rs.flatten.take (i*6)) qay (n+1-i) (by omega) (by omega) (by omega) (by omega) (by rw[jH];omega) (by rw[jH,P3];exact growslice_fits (by omega) (by omega));rw[P3,hG,wW,hN,show(((n+1-i:Nat)):Int)=(n:Int)+1-(i:Int)by omega]at h;exact h
 obtain⟨cur1,dV⟩:=Ae ((ROW.toList.take (i*6)++x.cells.toList++ROW.toList.drop (i*6+x.cells.toList.length)).toArray);obtain⟨cs1,I2⟩:=Ae (rs.flatten.drop (i*6))
 have Ba:cs1.length=(n-i)*6:=by rw[<- I2,List.length_drop,Ut];omega
 obtain⟨cur2,gN⟩:=Ae ((cur1.toList.take ((i+1)*6)++cs1++cur1.toList.drop ((i+1)*6+cs1.length)).toArray)
 have Cp:cur1.size=G*6:=by
  rw[<- dV,List.size_toArray];simp only[List.length_append,List.length_take,List.length_drop,Array.length_toList,J1];simp only[List.length_cons,List.length_nil];omega
 have Az:cur2.size=G*6:=by
  rw[<- gN,List.size_toArray];simp only[List.length_append,List.length_take,List.length_drop,Array.length_toList,Cp,Ba];omega
 obtain⟨W1,Ah⟩:=Ae (w.drew.alloc (.cells ROW 41));rw[Ah]at qk0;have qh6:w.drew.heap.size=N:=hN
 have qgp:Blk W1 N ROW 41:=by rw[<- Ah,<- qh6];exact Blk.new w.drew ROW 41
 have Ma:∀ k,k<N->W1.heap[k]?=w.heap[k]? := fun k hk=>by rw[<- Ah];exact Below.heap_alloc w.drew _ _ (by rw[qh6];exact hk)
 have uH:∀ ty dc,(Builtin.copy_ #[44,44] ty #[.slice (some ⟨N,i*6,none⟩) (n+1-i) dc,.slice (some ⟨xb,0,none⟩) 1 1]).run Tryz.prog W1=.ok (goInt (1:Nat)) (W1.setRow N cur1):=fun ty dc=>by
  have Xr:Nat.min 1 (n+1-i)=1:=by simp only[Nat.min_def];split<;>omega
  have := qai W1 44 44 ty 41 6 N (i*6) (n+1-i) dc ⟨xb,0,none⟩ 1 1 ROW 41 x.cells.toList Tryz.underlying44 qad qgp (by rw[Xr];rfl)
   (fun j v hj=>by rw[cY];exact Blk.at ((Ma xb Pq).trans hx) (by rw[Nat.zero_add];simpa using hj)) (by rw[J1];simp only[List.length_cons,List.length_nil];omega) h1
  rw[Xr,dV]at this;exact this
 have bR:∀ (W:World),Blk W N cur1 41->W.heap[g]?=w.heap[g]?->∀ ty dc sc,(Builtin.copy_ #[44,44] ty #[.slice (some ⟨N,(i+1)*6,none⟩) (n+1-(i+1)) dc,.slice (some ⟨g,i*6,none⟩) (n-i) sc]).run Tryz.prog W=.ok (goInt (n-i:Nat)) (W.setRow N cur2):=fun W Ah Ax ty dc sc=>by
  have Xr:Nat.min (n-i) (n+1-(i+1))=n-i:=by simp only[Nat.min_def];split<;>omega
  have := qai W 44 44 ty 41 6 N ((i+1)*6) (n+1-(i+1)) dc ⟨g,i*6,none⟩ (n-i) sc cur1 41 cs1 Tryz.underlying44 qad Ah (by rw[Xr,Ba])
   (fun j v hj=>by
    rw[cY];refine(World.cell?_of_block (w:=w) (a:=⟨g,_,none⟩) Ax).trans (Oa _ v ?_)
    rw[<- I2,List.getElem?_drop]at hj;exact hj) (by rw[Ba,Cp];omega) (fun v hv=>Bd v (by rw[<- I2]at hv;exact List.mem_of_mem_drop hv))
  rw[Xr,gN]at this;exact this
 have hm:=qyg;unfold maxLen at hm
 have Ft:((i:Int)==(n:Int))=false:=by simp;omega
 have Od:decide ((n:Int)<(n:Int)+1)=true:=by simp;omega
 have Dp:¬ n=i:=by omega
 have gH:¬ G=i:=by omega
 have zig:¬ G=i+1:=by omega
 have Rc:i<=n:=by omega
 have zht:i<=n+1:=by omega
 have nQ:((i:Int)+1).toNat=i+1:=by omega
 have Bp:(0:Int)<=(i:Int)+1:=by omega
 have Ak:(i:Int)+1<=(n:Int)+1:=by omega
 have Aq:(i:Int)<=(n:Int)+1:=by omega
 have Bk:¬ ((n:Int)+1<(i:Int)):=by omega
 have Kw:IntKind.i64.wrap ((i:Int)+1)=(i:Int)+1:=by rw[IntKind.wrap_i64];omega
 have zr4:=Aa qk0;have qli:=Aa uH;have lZ:=Aa bR;have Mu:=Aa hl;have dG:=Aa I2;have HQ:=Aa hq;have HX:=Aa hx;have HB:=Aa Ma;have Nz:=Aa qgp;have Dk:=Aa Ah;have Q2:=Aa hN;have kO:=Aa qot;have Df:=Aa Bd;clear qk0 uH bR Oa Bd I2 Ba hx hq Ut hl Ma qgp Ah hN qh6 qot wW hG Jo Cz Vb jH;go_enter Tryz.func58,Tryz.ntmps58
 go_upto_region 9 with fail
 iterate 25 go_step
 refine wpList_plain rfl fun _ Hb=>zhl w _ _ 44 3 rfl (.slice (some ⟨g,0,none⟩) i n) (.int .i64 ((n:Int)+1-(i:Int))) (by simp[Act.eval]) (by simp[Act.eval]) (zr4.out _) (Hb _ _ ?_)
 go_upto_region 10 with fail
 iterate 13 go_step
 refine wpList_plain rfl fun _ Hb=>o5 W1 _ _ 44 44 rfl (.slice (some ⟨N,i*6,none⟩) (n+1-i) (G-i)) (.slice (some ⟨xb,0,none⟩) 1 1) (by simp[Act.eval]) (by simp[Act.eval]) (qli.out _ _) (Hb _ _ ?_)
 have v6:g≠N:=by omega
 have Dz:Blk (W1.setRow N cur1) N cur1 41:=setRow_heap W1 N ROW cur1 41 _ Nz.out;have Nb:(W1.setRow N cur1).heap[g]?=w.heap[g]? := (setRow_other W1 N g cur1 v6).trans (HB.out g xH);have zpy:Hid (W1.heap.size=N+1):=Aa (by rw[<- Dk.out,World.size_alloc];show w.heap.size+1=_;rw[Q2.out]);obtain⟨W2,Ax⟩:=Ae (W1.setRow N cur1);rw[Ax]at Dz Nb ⊢;have Im:=Aa Ax;have Gh:=Aa (lZ.out W2.drew Dz Nb);clear Ax
 go_upto_region 11 with fail
 refine Fz (fun _=>True) [] (by kernel_rfl) ?_;have qS:(fun _:World=>True) W2.drew:=trivial;refine Am (i:=0) (v:=.slice (some ⟨N,0,none⟩) (n+1) G) rfl qS ?_;refine Am (i:=1) (v:=.int .i64 i) rfl qS ?_;refine Am (i:=2) (v:=.int .i64 1) rfl qS ?_;refine Am (i:=3) (v:=.int .i64 ((i:Int)+1)) rfl qS ?_;refine Am (i:=4) (v:=.slice (some ⟨N,(i+1)*6,none⟩) (n+1-(i+1)) (G-(i+1))) rfl qS ?_;refine Am (i:=5) (v:=.slice (some ⟨g,0,none⟩) n n) rfl qS ?_;refine Am (i:=6) (v:=.int .i64 i) rfl qS ?_;refine Am (i:=7) (v:=.slice (some ⟨g,i*6,none⟩) (n-i) (n-i)) rfl qS ?_;refine Ap (i:=8) rfl ?_;refine o5 _ _ _ 44 44 rfl (.slice (some ⟨N,(i+1)*6,none⟩) (n+1-(i+1)) (G-(i+1))) (.slice (some ⟨g,i*6,none⟩) (n-i) (n-i)) (by simp[Act.eval,Act.put]) (by simp[Act.eval,Act.put]) (Gh.out _ _ _) ?_;refine⟨fun _=>trivial,?_⟩;refine Eo (by kernel_rfl) ?_ _;go_simp
 go_wp2_with fail
 go_ret
 have oP:(W2.drew.setRow N cur2).heap.size=N+1:=by rw[<- zpy.out,<- Im.out];simp[World.setRow]
 refine⟨G,rfl,zit,qyg,⟨cur2,setRow_heap W2.drew N cur1 cur2 41 _ Dz,Az,?_⟩,⟨by rw[<- Im.out,<- Dk.out];rfl,by rw[<- Im.out,<- Dk.out];rfl,by rw[<- Im.out,<- Dk.out];rfl,by rw[oP,Q2.out];omega,fun k hk _=>?_⟩⟩
 ·rw[qoy Ay]
  refine zuc (c:=6) (n:=n) (i:=i) (ROW:=ROW.toList) (cur1:=cur1.toList) kO.out (by have := C3 Ay;rw[Mu.out]at this;exact this) Rc rfl (by rw[Array.length_toList,J1];omega) ?_ ?_
  ·rw[<- dV]
  ·rw[<- gN,dG.out]
 ·rw[Q2.out]at hk
  have zar:k≠N:=by omega
  rw[setRow_other W2.drew N k cur2 zar]
  show W2.heap[k]?=_
  rw[<- Im.out,setRow_other W1 N k cur1 zar];exact HB.out k hk
theorem vW (x:Vv) (h1:∀ u∈x.cells.toList,u.oneCell'=true):Dg 6 [x.cells.toList]:=Dg.one rfl h1
theorem ztt {w:World} {xb:Nat} {z:Vv} (h:Blk w xb z.cells 41) {i j:Nat} {r:List Value} {u:Value} (hi:[z.cells.toList][i]?=some r) (hj:r[j]?=some u):w.cell? ⟨xb,0+(i*6+j),none⟩=some u:=by
 match i,hi with
 | 0,hi =>
  simp only[List.getElem?_cons_zero,Option.some.injEq]at hi;subst hi;have := h.at (i:=j) (x:=u) (by simpa using hj);rwa[show 0+(0*6+j)=j by omega]
 | i+1,hi=>simp at hi
theorem zjd {rs:List (List Value)} (r:List Value):Tt rs rs.length r=rs++[r]:=by unfold Tt;rw[List.take_length,List.drop_length]
theorem ziy (base xb:Nat) (v:Value) (rs:List (List Value)) (x:Vv) (w:World) (Av:Be 6 41 base w v rs) (Dr:rs.length<=2^20) (Uz:base<=w.heap.size) (hx:Blk w xb x.cells 41) (h1:∀ u∈x.cells.toList,u.oneCell'=true) :
  Calls Tryz.prog 58 #[v,.int .i64 rs.length,.slice (some ⟨xb,0,none⟩) 1 1] w fun e w'=>∃ v',e=.returned v'/\Be 6 41 base w' v' (rs++[x.cells.toList])/\w.grownBy w' v.ownBlock/\∃ g,v'.ownBlock=some g/\(v.ownBlock=some g\/g=w.heap.size):=by
 have Pz:Hid (∀ (i:Nat) (r:List Value) (j:Nat) (u:Value),[x.cells.toList][i]?=some r->r[j]?=some u->w.cell? ⟨xb,0+(i*6+j),none⟩=some u):=Aa fun i r j u hi hj=>ztt hx hi hj
 have Cx:=vW x h1;obtain⟨n,hn⟩:=Ae rs.length;obtain⟨R,hR⟩:=Ae x.cells.toList;have zx5:([R]:List (List Value)).length=1:=rfl;rw[hR]at Pz Cx ⊢;have HN:=Aa hn;have Hi:=Aa Av;have Zf:=Aa Cx
 have Fe:((n:Int)==(n:Int))=true:=by simp
 clear hn
 rcases Av.1.2 with⟨rfl,h0⟩ | ⟨g,cap,cur,rfl,hb,hg,Ro,hm,hs,ht⟩
 ·rw[HN.out]at h0 Dr ⊢
  subst h0;clear Av Cx hx h1 hR;go_enter Tryz.func58,Tryz.ntmps58
  go_wp2_with (at_builtin;refine Q6 rfl (.tmp 23) (.tmp 24) 44 rfl Tryz.underlying44 Tryz.infoValG (by kernel_rfl) (by decide) rfl Hi.out (b:=xb) (off:=0) (m:=1) (cap:=1) (ms:=[R]) rfl rfl Zf.out Pz.out (by decide) (by rw[HN.out];simp[maxLen]) (by rw[HN.out];omega) Uz ?_;intro g1 cap1 w5 Hh Bo Ie)
  all_goals go_wp2_with fail
  all_goals go_ret
  all_goals
   exact⟨_,rfl,Hh,Bo,g1,rfl,Ie⟩
 ·rw[HN.out]at Ro Hi Dr ⊢
  unfold maxLen at hm;clear Av Cx hx h1 hR ht hs hg;go_enter Tryz.func58,Tryz.ntmps58
  go_wp2_with (at_builtin;refine Q6 rfl (.tmp 23) (.tmp 24) 44 rfl Tryz.underlying44 Tryz.infoValG (by kernel_rfl) (by decide) rfl Hi.out (b:=xb) (off:=0) (m:=1) (cap:=1) (ms:=[R]) rfl rfl Zf.out Pz.out (by decide) (by rw[HN.out];simp[maxLen];omega) (by rw[HN.out];omega) Uz ?_;intro g1 cap1 w5 Hh Bo Ie)
  all_goals go_wp2_with fail
  all_goals go_ret
  all_goals
   exact⟨_,rfl,Hh,Bo,g1,rfl,Ie⟩
theorem zm1 (base i xb:Nat) (v:Value) (rs:List (List Value)) (x:Vv) (w:World) (Av:Be 6 41 base w v rs) (hi:i<=rs.length) (Dr:rs.length<=2^20) (Uz:base<=w.heap.size) (hx:Blk w xb x.cells 41)
  (h1:∀ u∈x.cells.toList,u.oneCell'=true) (At:v.ownBlock≠some xb) :
  Calls Tryz.prog 58 #[v,.int .i64 i,.slice (some ⟨xb,0,none⟩) 1 1] w fun e w'=>∃ v',e=.returned v'/\Be 6 41 base w' v' (Tt rs i x.cells.toList)/\w.grownBy w' v.ownBlock/\∃ g,v'.ownBlock=some g/\(v.ownBlock=some g\/g=w.heap.size):=by
 by_cases he:i=rs.length
 ·subst he
  rw[zjd];exact ziy base xb v rs x w Av Dr Uz hx h1
 ·have Aj:i<rs.length:=by omega
  rcases Av.1.2 with⟨rfl,h0⟩ | ⟨g,cap,cur,rfl,hb,hg,Ro,hm,hs,ht⟩
  ·omega
  ·have zot:xb≠g:=fun e=>At (by simp[Value.ownBlock,e])
   have Mk:=qtj (r:=x.cells.toList) hi
   by_cases qxv:rs.length+1<=cap
   ·refine(zw3 base g rs.length cap i xb cur rs x w hg hs ht Av.2 rfl Aj qxv hm hx h1 zot).mono ?_
    rintro e w' ⟨rfl,⟨cur',hq,Dn,Ea⟩,Jz⟩;refine⟨_,rfl,⟨⟨by rw[C3 (qcu Av.2 (vW x h1))],.inr ⟨g,cap,cur',by rw[Mk],hb,hq,by omega,hm,Dn,by rw[Mk];exact Ea⟩⟩,qcu Av.2 (vW x h1)⟩,Jz,g,rfl,.inl rfl⟩
   ·obtain rfl:cap=rs.length:=by omega
    refine(zw1 base g rs.length i xb cur rs x w hg hs ht Av.2 rfl Aj Dr hx h1).mono ?_;rintro e w' ⟨G,rfl,zya,zug,⟨cur',hq,Dn,Ea⟩,Jz⟩;refine⟨_,rfl,⟨⟨by rw[C3 (qcu Av.2 (vW x h1))],.inr ⟨w.heap.size,G,cur',by rw[Mk],Uz,hq,by omega,zug,Dn,by rw[Mk];exact Ea⟩⟩,qcu Av.2 (vW x h1)⟩,⟨Jz.os,Jz.tape,Jz.output,Jz.size,fun k hk _=>Jz.block k hk (by simp)⟩,w.heap.size,rfl,.inr rfl⟩
def qrs (base sb so:Nat) (cv:Value) (l:List Vq) (v:Vq) (rs:List (List Value)) (w:World) (e:Ending) (w':World):Prop :=
 (Zz l v=none/\e=.returned (.bool false)/\Below w.heap.size w w')\/(fnd l v=true/\e=.returned (.bool true)/\Below w.heap.size w w') ∨
 (fnd l v=false/\l.length≠32/\e=.returned (.bool true)/\∃ (z:Vv) (cv':Value) (W5:World) (g hi:Nat),w'=W5.setCell ⟨sb,so+10,none⟩ cv'/\Be 6 41 base W5 cv' (Tt rs (Eu l v) z.cells.toList)/\w.grownBy W5 cv.ownBlock ∧
  Zed (Btw w.heap.size hi) W5 (fun K W=>VlX K W v z)/\w.heap.size<=hi/\hi<=W5.heap.size/\cv'.ownBlock=some g/\(cv.ownBlock=some g\/hi<=g))
theorem zoq (K base sb so:Nat) (cv:Value) (l:List Vq) (kd:Int) (v:Vq) (x:Vv) (rs:List (List Value)) (w:World) (hl:Yl K w cv l) (Av:Be 6 41 base w cv rs) (Np:rs.length=l.length) (hv:VlX K w v x)
  (Qq:v.good=true) (V6:v.ok=true) (Rv:v.kd=kd) (ho:Nq kd l) (Cc:l.length<=32) (hK:K<=w.heap.size) (Uz:base<=w.heap.size) (hs:w.cell? ⟨sb,so+10,none⟩=some cv) (fX:w.frozen? ⟨sb,so+10,none⟩=false) (At:cv.ownBlock≠some sb) :
  Calls Tryz.prog 33 #[.pointer (some ⟨sb,so,none⟩),x.agg] w (qrs base sb so cv l v rs w):=by
 have Hw:sb<w.heap.size:=block_lt_of_cell hs;have bW:Below w.heap.size w (w.alloc (.cells x.cells 41)):=Af _ _;have qW:Blk (w.alloc (.cells x.cells 41)) w.heap.size x.cells 41:=Blk.new w _ _;have Fh:=qgj w.heap.size sb so cv l kd v x (w.alloc (.cells x.cells 41)) (hl.below bW hK hK) (hv.below bW hK hK) ho Qq V6 Rv (by simp) ((bW.cell (p:=⟨sb,so+10,none⟩) Hw).trans hs) (by simp;omega) (by omega);have HS:=Aa hs;have HF:=Aa fX;have HV:=Aa hv;have Hi:=Aa Av;have Hx:=Aa Np;have Rw:=Aa At;have HG:=Aa Qq;have Cm:=Aa bW;have zg0:=Aa qW;obtain⟨ca,cn,Ev,_⟩:=hl.form;have qka:=Aa (wB l v);have nS:Hid (Zz l v=if fnd l v then some l else if l.length=32 then none else some (l.take (Eu l v)++v::l.drop (Eu l v))):=Aa rfl
 have HP:Hid (∀ e w',((Zz l v=none/\e=.returned (.bool false)/\Below w.heap.size w w')\/(fnd l v=true/\e=.returned (.bool true)/\Below w.heap.size w w') ∨
  (fnd l v=false/\l.length≠32/\e=.returned (.bool true)/\∃ (z:Vv) (cv':Value) (W5:World) (g hi:Nat),w'=W5.setCell ⟨sb,so+10,none⟩ cv'/\Be 6 41 base W5 cv' (Tt rs (Eu l v) z.cells.toList)/\w.grownBy W5 cv.ownBlock ∧
  Zed (Btw w.heap.size hi) W5 (fun K W=>VlX K W v z)/\w.heap.size<=hi/\hi<=W5.heap.size/\cv'.ownBlock=some g/\(cv.ownBlock=some g\/hi<=g)))->qrs base sb so cv l v rs w e w'):=Aa fun _ _ h=>h
 obtain⟨f,hf⟩:=Ae (fnd l v);obtain⟨r,hr⟩:=Ae (Eu l v);obtain⟨n,hn⟩:=Ae l.length;rw[hf,hr]at Fh;rw[hf,hr,hn]at HP;rw[hf,hn]at nS;rw[hr,hn]at qka;rw[hn]at Hx Cc Ev;subst Ev
 have Ck:x.s1.oneCell'=true/\x.s2.oneCell'=true:=by
  obtain⟨_,_,h1,_⟩:=hv.n.form;obtain⟨_,_,h2,_⟩:=hv.d.form;rw[h1,h2];exact⟨rfl,rfl⟩
 clear hl Av Np hv Qq V6 Rv ho hs fX At bW qW hf hr hn;obtain⟨kx,m1,x1,m2,x2,xi⟩:=x;dsimp only at Ck;obtain⟨Ck,Gi⟩:=Ck;go_enter Tryz.func33,Tryz.ntmps33
 go_wp2_with fail
 refine Fh.mono ?_;rintro e w2 ⟨rfl,Ai⟩;clear Fh;have b2:Below w.heap.size w w2:=Cm.out.trans (Ai.mono (by simp));have q2:=zg0.out.below Ai (by simp);have c2:w2.cell? ⟨sb,so+10,none⟩=some (.slice ca n cn):=(b2.cell (p:=⟨sb,so+10,none⟩) Hw).trans HS.out
 cases f with
 | true =>
  go_wp2_with fail
  go_ret
  exact HP.out _ _ (.inr (.inl ⟨by simp,rfl,b2⟩))
 | false =>
  by_cases M7:n=32
  ·have hi:=nS.out
   rw[if_neg (by simp),if_pos M7]at hi;have HI:=Aa hi;subst M7;clear hi;go_wp2_with fail
   go_ret
   exact HP.out _ _ (.inl ⟨HI.out,rfl,b2⟩)
  ·have jbz:((n:Int)==32)=false:=by simp;omega
   have zi1:=Aa M7;have Az:=b2.size;have q2lt:=q2.lt;clear M7
   go_upto_region 6 with fail
   have Gh:=Aa c2;have Bw:=Aa q2;clear c2 q2;refine Fz (fun W'=>W'.cell? ⟨sb,so+10,none⟩=some (.slice ca n cn)/\Blk W' w.heap.size #[.int .u8 kx,.bool m1,x1,.bool m2,x2,.int .i64 xi] 41) [12] (by kernel_rfl) ?_;have qS:(fun W':World=>W'.cell? ⟨sb,so+10,none⟩=some (.slice ca n cn)/\Blk W' w.heap.size #[.int .u8 kx,.bool m1,x1,.bool m2,x2,.int .i64 xi] 41) w2.drew:=⟨Gh.out,Bw.out⟩;refine Nu [12,11,10] (i:=0) (v:=.pointer (some ⟨sb,so,none⟩)) rfl (by kernel_rfl) (by kernel_rfl) (by kernel_rfl) (by kernel_rfl) (by kernel_rfl) (by kernel_rfl) (fun _ _ _ h=>h) (.inl ⟨by kernel_rfl,fun W' hS=>by go_simp⟩) qS ?_;refine Nu [12,9,4,3,2] (i:=1) (v:=.pointer (some ⟨sb,so,none⟩)) rfl (by kernel_rfl) (by kernel_rfl) (by kernel_rfl) (by kernel_rfl) (by kernel_rfl) (by kernel_rfl) (fun _ _ _ h=>h) (.inl ⟨by kernel_rfl,fun W' hS=>by go_simp⟩) qS ?_;refine Nu [12,9,4,3] (i:=2) (v:=.pointer (some ⟨sb,so,none⟩)) rfl (by kernel_rfl) (by kernel_rfl) (by kernel_rfl) (by kernel_rfl) (by kernel_rfl) (by kernel_rfl) (fun _ _ _ h=>h) (.inl ⟨by kernel_rfl,fun W' hS=>by go_simp⟩) qS ?_;refine Nu [12,9,4] (i:=3) (v:=.pointer (some ⟨sb,so+10,none⟩)) rfl (by kernel_rfl) (by kernel_rfl) (by kernel_rfl) (by kernel_rfl) (by kernel_rfl) (by kernel_rfl) (fun _ _ _ h=>h) (.inl ⟨by kernel_rfl,fun W' hS=>by go_simp⟩) qS ?_;refine Nu [12,9] (i:=4) (v:=.slice ca n cn) rfl (by kernel_rfl) (by kernel_rfl) (by kernel_rfl) (by kernel_rfl) (by kernel_rfl) (by kernel_rfl) (fun _ _ _ h=>h) (.inl ⟨by kernel_rfl,fun W' hS=>by have d:=hS.1;go_simp⟩) qS ?_;refine Nu [12,9] (i:=5) (v:=.int .i64 r) rfl (by kernel_rfl) (by kernel_rfl) (by kernel_rfl) (by kernel_rfl) (by kernel_rfl) (by kernel_rfl) (fun _ _ _ h=>h) (.inl ⟨by kernel_rfl,fun W' hS=>by go_simp⟩) qS ?_;refine Nu [12,9,8,7] (i:=6) (v:=.agg #[.int .u8 kx,.bool m1,x1,.bool m2,x2,.int .i64 xi]) rfl (by kernel_rfl) (by kernel_rfl) (by kernel_rfl) (by kernel_rfl) (by kernel_rfl) (by kernel_rfl) (fun _ _ _ h=>h) (.inl ⟨by kernel_rfl,fun W' hS=>by obtain⟨d0,d1,d2,d3,d4,d5⟩:=hS.2.six;go_simp⟩) qS ?_;refine Ap (i:=7) rfl ?_;go_simp
   have Fb:=qc8 K v ⟨kx,m1,x1,m2,x2,xi⟩ w2.drew (HV.out.below (Er b2) hK (Ab _)) HG.out (by show K<=w2.heap.size;omega);refine Fb.mono ?_;rintro en w3 ⟨z,rfl,Od,Ak⟩;have b3:Below w.heap.size w w3:=(Er b2).trans (Ak.mono Az);have qS3:w3.cell? ⟨sb,so+10,none⟩=some (.slice ca n cn)/\Blk w3 w.heap.size #[.int .u8 kx,.bool m1,x1,.bool m2,x2,.int .i64 xi] 41:=⟨(Ak.cell (p:=⟨sb,so+10,none⟩) (by show sb<w2.heap.size;omega)).trans qS.1,qS.2.below Ak q2lt⟩
   have ql7:=Od.get fun b hb=>hb.2
   obtain⟨za,zc,Gb,_⟩:=ql7.n.form;obtain⟨ya,yc,Ft,_⟩:=ql7.d.form
   have qun:∀ u∈z.cells.toList,u.oneCell'=true:=fun u hu=>qz7 z (by rw[Gb];rfl) (by rw[Ft];rfl) u (Array.mem_toList_iff.1 hu)
   have G4:=Aa Od;have zcv:=Aa qun;have Do:=Aa b3;have Ep:w2.heap.size<=w3.heap.size:=Ak.size;clear Fb Od ql7 qun Ak b3;obtain⟨zk,zb1,zs1,zb2,zs2,zi⟩:=z;dsimp only at Gb Ft;subst Gb Ft;refine⟨qS3,?_⟩;refine Ap (i:=8) rfl ?_;go_simp
   have qS4:(w3.alloc (.cells (⟨zk,zb1,.slice za v.l1.length zc,zb2,.slice ya v.l2.length yc,zi⟩:Vv).cells 41)).cell? ⟨sb,so+10,none⟩=some (.slice ca n cn):=(Below.cell ((Below.refl w3.heap.size w3).alloc (Ab _) _) (p:=⟨sb,so+10,none⟩) (by show sb<w3.heap.size;omega)).trans qS3.1;have b4:Below w.heap.size w (w3.alloc (.cells (⟨zk,zb1,.slice za v.l1.length zc,zb2,.slice ya v.l2.length yc,zi⟩:Vv).cells 41)):=Do.out.alloc (by omega) _;have Ik:=zm1 base r w3.heap.size (.slice ca n cn) rs ⟨zk,zb1,.slice za v.l1.length zc,zb2,.slice ya v.l2.length yc,zi⟩ (w3.alloc (.cells (⟨zk,zb1,.slice za v.l1.length zc,zb2,.slice ya v.l2.length yc,zi⟩:Vv).cells 41)) (Hi.out.old b4 (Ab _)) (by rw[Hx.out];exact qka.out) (by rw[Hx.out];omega) (by simp;omega) (Blk.new w3 _ _) zcv.out (fun e=>by have := Hi.out.lt e;omega);have Ei:=Aa b4;clear b4;refine⟨⟨qS4,qS3.2.alloc _⟩,?_⟩;refine Ap (i:=9) rfl ?_;go_simp
   refine Ik.mono ?_;rintro en w5 ⟨v',rfl,Hh,Bo,g,Y5,Bq⟩;clear Ik;have lD:=Bo.size;rw[World.size_alloc]at lD
   have Rt:∀ b,b<w3.heap.size+1->(Value.slice ca n cn).ownBlock≠some b->w5.heap[b]?=(w3.alloc (.cells (⟨zk,zb1,.slice za v.l1.length zc,zb2,.slice ya v.l2.length yc,zi⟩:Vv).cells 41)).heap[b]? := fun b hb At=>Bo.block b (by rw[World.size_alloc];exact hb) (fun e=>At e.symm)
   have c5:w5.cell? ⟨sb,so+10,none⟩=some (.slice ca n cn):=(World.cell?_of_block (Rt sb (by omega) Rw.out)).trans qS4;have f5:w5.frozen? ⟨sb,so+10,none⟩=false:=(World.frozen?_of_block (a:=⟨sb,so+10,none⟩) (Rt sb (by omega) Rw.out)).trans ((Ei.out.frozen (p:=⟨sb,so+10,none⟩) Hw).trans HF.out);have q5:Blk w5 w.heap.size #[.int .u8 kx,.bool m1,x1,.bool m2,x2,.int .i64 xi] 41:=(Rt w.heap.size (by omega) (fun e=>by have := Hi.out.lt e;omega)).trans (qS3.2.alloc _);obtain⟨va,vn,uP,_⟩:=Hh.form;rw[qtj (by rw[Hx.out];exact qka.out),Hx.out]at uP;subst uP;have zo7:=Aa Hh;have cS:=Aa Bo;have zsa:=Aa Y5;have V9:=Aa Bq;clear Hh Bo Rt qS4 Y5 Bq;refine⟨⟨c5,q5⟩,?_⟩;have Jq:=Aa q5;have qhk:=Aa c5;clear q5 c5;refine Ap (i:=10) rfl ?_;go_simp
   refine⟨⟨qhk.out,Jq.out⟩,?_⟩;refine Ap (i:=11) rfl ?_;go_simp
   refine⟨⟨qhk.out,Jq.out⟩,?_⟩;have c5:=qhk.out;refine Ap (i:=12) rfl ?_;go_simp
   refine Eo (by kernel_rfl) ?_ _;clear c5 f5;go_wp2_with fail
   go_ret
   have eY:∀ q,(Value.slice ca n cn).ownBlock=some q->q<w.heap.size:=fun q h=>Hi.out.lt h
   refine HP.out _ _ (.inr (.inr ⟨by simp,zi1.out,rfl,⟨zk,zb1,.slice za v.l1.length zc,zb2,.slice ya v.l2.length yc,zi⟩,.slice va (n+1) vn,w5,g,w3.heap.size,rfl,zo7.out,?_,?_,by omega,by omega,zsa.out,?_⟩))
   ·have h1:=Ei.out
    have h2:=cS.out;exact⟨h2.os.trans h1.os,h2.tape.trans h1.tape,h2.output.trans h1.output,Nat.le_trans h1.size h2.size,fun k hk At=>(h2.block k (by have := h1.size;omega) At).trans (h1.block k hk)⟩
   ·have h1:=(G4.out.mono (zuf (lo':=w.heap.size) (by show w.heap.size<=w2.heap.size;omega))).move (w':=w5) (Agr.of fun b hb=>(cS.out.block b (by rw[World.size_alloc];have := hb.2;omega) (fun e=>by have := eY b e.symm;have := hb.1;omega)).trans (Below.heap_alloc _ _ _ hb.2))
    exact h1
   ·rcases V9.out with h | h
    ·exact .inl h
    ·exact .inr (by rw[h,World.size_alloc];omega)
end Go.Proofs.YtlldjmagbjjeoaaGreatDoor
