/- Contracts and plain laws, several texts in one (DText, DOwn, DCond). No conditions beyond those stated. -/
import Derived.Lib.ItoaLen
import Derived.Test.YtlldjmagbjjeoaaGreatDoorPk28
set_option maxRecDepth 100000
set_option maxHeartbeats 40000000
namespace Go.Proofs.YtlldjmagbjjeoaaGreatDoor
open Go.RowKit
set_option linter.unusedVariables false
def Pe (K : Nat) (w : World) : Prop := Lib.TabBelow Tryz.prog K w "internal/strconv.uint64pow10" .u64 Lib.pow10Tab
theorem Pe.on {K:Nat} {w w':World} (h:Pe K w) (hb:Below K w w'):Pe K w':=Lib.TabBelow.on h hb
theorem Pe.up {K B : Nat} {w : World} (h : Pe K w) (hK : K <= B) : Lib.TabBelow Tryz.prog B w "internal/strconv.uint64pow10" .u64 Lib.pow10Tab := fun w' hb => h w' (hb.mono hK)
def Ou (base:Nat) (w:World) (v:Value) (l:List UInt8):Prop:=w.ownsRow base 5 1 v l.length (Lib.byteCells l)
theorem Ou.form {base:Nat} {w:World} {v:Value} {l:List UInt8} (h:Ou base w v l):∃ a c,v=.slice a l.length c:=by
 obtain⟨a,c,e,_⟩:=pK h;exact⟨a,c,e⟩
theorem qpj (B:Nat) (i:Int) (h0 : -9223372036854775808<=i) (h1:i<=9223372036854775807) (a:Option Addr) (c:Nat) (l:List UInt8) (n:Nat) (hn:l.length=n) (w:World) (Av:Ou B w (.slice a n c) l) (gL:B<=w.heap.size) (oF:n+21<=2^46)
  (In : Lib.TabBelow Tryz.prog B w "internal/strconv.uint64pow10" .u64 Lib.pow10Tab) :
  Calls Tryz.prog 101 #[.slice a n c,.int .i64 i,.int .i64 10] w fun e w'=>∃ v',e=.returned v'/\Ou B w' v' (l++Lib.itoa i)/\Below B w w':=by
 subst hn;have hc:=Tryz.internal_strconv_AppendInt_10 B l.length i h0 h1 (.slice a l.length c) (Lib.byteCells l) w Av gL (by omega) In;have HC:=Aa hc;obtain⟨n,hn⟩:=Ae l.length;have HN:=Aa hn;rw[hn]at HC ⊢;clear hc hn Av In h0 h1 oF;go_enter Tryz.func101,Tryz.ntmps101
 go_wp2_with fail
 refine HC.out.mono ?_;rintro e w2 ⟨v2,rfl,jP,Ai,_⟩;obtain⟨a2,c2,rfl,_,_⟩:=id (pK jP);have qa4:=Aa jP;obtain⟨m,hm⟩:=Ae (n+(Lib.itoa i).length);have HM:=Aa hm;rw[hm]at qa4 ⊢;clear jP hm;go_wp2_with fail
 go_ret
 refine⟨_,rfl,?_,Ai⟩;unfold Ou;rw[List.length_append,HN.out,HM.out,Lib.byteCells,List.map_append];exact qa4.out
theorem qrp:(Tryz.prog.info? 5).map (fun i=>(i.zero,i.size,i.bytes))=some (some (.int .u8 0),1,1):=by kernel_rfl
theorem qdv {α:Type} (f:α->Value):∀ l:List α,(l.map fun b=>[f b]).flatten=l.map f
 | []=>rfl
 | a::l=>by rw[List.map_cons,List.flatten_cons,qdv f l];rfl
theorem Ou.rows {base:Nat} {w:World} {v:Value} {l:List UInt8} (h:Ou base w v l):Be 1 5 base w v (l.map fun b=>[Value.int .u8 b.toNat]) :=
 ⟨by rw[qdv,List.length_map];exact h,fun r hr=>by obtain⟨b,_,rfl⟩:=List.mem_map.1 hr;exact⟨rfl,fun u hu=>by rw[List.mem_singleton.1 hu];rfl⟩⟩
theorem Ou.ofRows {base:Nat} {w:World} {v:Value} {l:List UInt8} {n:Nat} (h:Be 1 5 base w v (l.map fun b=>[Value.int .u8 b.toNat])):Ou base w v l:=by
 have := h.1;rw[qdv,List.length_map]at this;exact this
theorem Ou.nil (base:Nat) (w:World):Ou base w (.slice none 0 0) []:=World.ownsRow_nil w base 5 1
theorem Ou.str {base:Nat} {w:World} {v:Value} {l:List UInt8} (h:Ou base w v l):(convert 22 9 v).run Tryz.prog w=.ok (S l) w:=by
 rcases id h.2 with⟨rfl,h0⟩ | ⟨g,cap,cur,rfl,hb,hg,hn,hm,hs,ht⟩
 ·have:l=[]:=List.eq_nil_of_length_eq_zero h0
  subst this;exact run_convert_bytes_nil w 22 5 Tryz.underlying22 Tryz.underlying5 _ _ 9 Tryz.underlying9
 ·refine run_convert_bytes_back w 22 9 5 ⟨g,0,none⟩ cap l Tryz.underlying22 Tryz.underlying5 Tryz.underlying9 fun j hj=>?_
  have := World.ownsRow.cells h (g:=g) rfl j (Value.int .u8 (l[j]).toNat) (by rw[Lib.byteCells,List.getElem?_map,Ac hj];rfl);exact this
theorem pS:∀ (l:List Int),(∀ n∈l,-(2^62)<n/\n<2^62)->(Jf l).length<=22*l.length
 | [],_=>by simp[Jf]
 | n::l,h=>by
  have h1:=Lib.itoa_length_le n (by have := h n (List.mem_cons_self ..);omega) (by have := h n (List.mem_cons_self ..);omega)
  have h2:=pS l fun m hm=>h m (List.mem_cons_of_mem _ hm)
  rw[sE,List.length_append,List.length_cons,List.length_cons];omega
theorem Q0 {α:Type} {l:List α} {i:Nat} {x:α} (h:l[i]?=some x):l.take (i+1)=l.take i++[x]:=by rw[List.take_add_one,h];rfl
theorem qyq (K:Nat) (lv mv:Value) (l more:List Int) (w:World) (hl:Re K w lv l) (hm:Re K w mv more) (hb:∀ n∈more++l,-(2^62)<n/\n<2^62) (Cc:more.length+l.length<=2^38) (hK:K<=w.heap.size) (In:Pe K w) :
  Calls Tryz.prog 76 #[lv,mv] w fun e w'=>e=.returned (S (Jf (more++l)))/\Below w.heap.size w w':=by
 obtain⟨la,lc,rfl,xL,Jw⟩:=Au.form hl;obtain⟨ma,mc,rfl,eF,cL⟩:=Au.form hm;obtain⟨n,hn⟩:=Ae l.length;obtain⟨m,Ij⟩:=Ae more.length;have HN:=Aa hn;have pW:=Aa Ij;rw[hn]at hl Cc xL ⊢;rw[Ij]at hm Cc eF ⊢;unfold maxLen at Jw cL;obtain⟨B,hB⟩:=Ae w.heap.size;have HB:=Aa hB;rw[hB]at hK ⊢
 have HL:Hid (∀ i,i<n->∃ b o,la=some ⟨b,o,none⟩/\b<K/\∀ i,i<n->w.cell? ⟨b,o+i,none⟩=some (.int .i64 (l[i]?.getD 0))):=Aa fun i hi=>by
  obtain⟨b,o,cap,he,_,_,Cj,hc⟩:=Au.pos hl (by omega);simp only[Value.slice.injEq]at he;exact⟨b,o,he.1,Cj,fun i hi=>by have := hc i (by rw[HN.out];exact hi) 0 (by omega);simpa using this⟩
 have HM:Hid (∀ i,i<m->∃ b o,ma=some ⟨b,o,none⟩/\b<K/\∀ i,i<m->w.cell? ⟨b,o+i,none⟩=some (.int .i64 (more[i]?.getD 0))):=Aa fun i hi=>by
  obtain⟨b,o,cap,he,_,_,Cj,hc⟩:=Au.pos hm (by omega);simp only[Value.slice.injEq]at he;exact⟨b,o,he.1,Cj,fun i hi=>by have := hc i (by rw[pW.out];exact hi) 0 (by omega);simpa using this⟩
 have Z7:=Aa hb;have HT:=Aa In;clear hl hm hb In hB hn Ij;go_enter Tryz.func76,Tryz.ntmps76
 go_wp2_with fail
 go_loopw [5,13] (fun ov iv wr=>∃ (k:Nat),k<=2/\iv=.int .i64 k/\Ou B wr ov (Jf (([more,l].take k).flatten))/\Below B w wr) (fun _ iv _=>2-(intOf iv).toNat)
 case atStart=>exact⟨0,by omega,rfl,Ou.nil _ _,Below.refl _ _⟩
 case round =>
  obtain⟨k,hk,rfl,B7,Cs⟩:=hrel;obtain⟨wo,rfl⟩:∃ wo:World,wo=wr:=⟨_,rfl⟩;have Cm:=Aa Cs
  have xO:B<=wo.heap.size:=by have := Cs.size;have := HB.out;omega
  clear Cs
  have Xg:k=0\/k=1\/k=2:=by omega
  rcases Xg with Xg | Xg | Xg
  ·have Jk:decide ((k:Int)<2)=true:=decide_eq_true (by omega)
   have g9:k<2:=by omega
   have uA:Hid (k+1<=2/\2-(k+1)<2-k):=Aa (by omega);have Tw:IntKind.i64.wrap ((k:Int)+1)=(k:Int)+1:=IntWalk.i64_in _ (by omega);clear g9
   have e0:(([more,l].take k).flatten)=[]:=by rw[Xg];simp
   have e1:(([more,l].take (k+1)).flatten)=[]++more:=by rw[Xg];simp
   have E1:=Aa e1;rw[e0]at B7;obtain⟨oa,oc,Is⟩:=B7.form;obtain⟨q,hq⟩:=Ae ((Jf ([]:List Int)).length);rw[hq]at Is;subst Is;have xN:=Aa B7;clear B7 e0 e1 hq
   have Ke:∀ w,(Instr.index 147 (.agg #[.slice ma m mc,.slice la n lc]) (.int .i64 (k:Int))).run Tryz.prog w=.ok (.slice ma m mc) w:=fun _=>by rw[Xg];kernel_rfl
   clear Xg hk;go_wp2_with fail
   go_loopw [5,18] (fun ov iv wr=>∃ (j:Nat),j<=m/\iv=.int .i64 j/\Ou B wr ov (Jf ([]++more.take j))/\Below B w wr) (fun _ iv _=>m-(intOf iv).toNat)
   case atStart=>exact⟨0,Nat.zero_le _,rfl,by rw[List.take_zero,List.append_nil];exact xN.out,Cm.out⟩
   case round =>
    obtain⟨j,hj,rfl,Sw,Xo⟩:=hrel;obtain⟨wi,rfl⟩:∃ wi:World,wi=wr:=⟨_,rfl⟩;obtain⟨ja,jc,rfl⟩:=id Sw.form;have E9:=Aa Xo
    have sL:B<=wi.heap.size:=by have := Xo.size;have := HB.out;omega
    clear Xo
    by_cases Aj:j<m
    ·obtain⟨b,o,rfl,Cj,hc⟩:=HM.out j Aj
     have Ot:j<more.length:=by rw[pW.out];exact Aj
     obtain⟨z,hz⟩:=Ae (more[j]?.getD 0)
     have Oj:more[j]?=some z:=by rw[<- hz,Ac Ot];rfl
     have c0:wi.cell? ⟨b,o+j,none⟩=some (.int .i64 z):=by rw[<- hz];exact(E9.out.cell (p:=⟨b,o+j,none⟩) (Nat.lt_of_lt_of_le Cj hK)).trans (hc j Aj)
     have jH:=Z7.out z (by have := List.mem_of_getElem? Oj;simp[this]);have Rh:Hid (Jf ([]++more.take (j+1))=Jf ([]++more.take j)++Lib.itoa z++[44]):=Aa (by rw[Q0 Oj,<- List.append_assoc,qom])
     have Hc:=pS ([]++more.take j) fun y hy=>Z7.out y (by
      rcases List.mem_append.1 hy with hy | hy
      ·simp at hy ⊢;try exact .inl hy
      ·have := List.mem_of_mem_take hy;simp[this])
     have En:([]++more.take j).length<=2^38:=by rw[List.length_append,List.length_take];have := HN.out;have := pW.out;simp;omega
     obtain⟨ky,eS⟩:=Ae (Jf ([]++more.take j));rw[eS]at Sw Hc Rh;have Cr:=Lib.itoa_length_le z (by omega) (by omega);have nC:=Aa Cr;obtain⟨q,hq⟩:=Ae ky.length;rw[eS,hq];have Bw:=Aa hq;rw[hq]at Sw Hc
     have tD:q+21<=2^46:=by omega
     have Dj:=qpj B z (by omega) (by omega) ja jc ky q hq wi Sw sL tD (Lib.TabBelow.on (Pe.up HT.out hK) E9.out);have Gm:=Aa Dj;clear Dj Sw hc hz Oj jH Hc En eS Cr hq;go_wp2_with fail
     refine Gm.out.mono ?_;clear Gm;rintro e w3 ⟨v3,rfl,Iy,Ak⟩;obtain⟨ka,kc,rfl⟩:=id Iy.form;obtain⟨r,hr⟩:=Ae ((ky++Lib.itoa z).length)
     have Np:r<=2^46:=by rw[<- hr,List.length_append,Bw.out];have := nC.out;omega
     have HR:=Aa hr;rw[hr]
     have dO:B<=w3.heap.size:=by have := Ak.size;omega
     have Do:=Aa (E9.out.trans Ak);have iV:Hid (Be 1 5 B (w3.alloc (.cells #[.int .u8 44] 5)) (.slice ka r kc) ((ky++Lib.itoa z).map fun b=>[Value.int .u8 b.toNat])):=Aa (by rw[<- hr];exact(Iy.rows).old (Af _ _) (Ab _))
     have Hl:Hid (∀ (i:Nat) (s:List Value) (j:Nat) (u:Value),([[Value.int .u8 44]]:List (List Value))[i]?=some s->s[j]?=some u->(w3.alloc (.cells #[.int .u8 44] 5)).cell? ⟨w3.heap.size,0+(i*1+j),none⟩=some u):=Aa fun i s j u h1 h2=>by
      have Jo:i=0:=by have := (List.getElem?_eq_some_iff.1 h1).1;simp at this;omega
      subst Jo;cases h1
      have Jb:j=0:=by have := (List.getElem?_eq_some_iff.1 h2).1;simp at this;omega
      subst Jb;cases h2
      exact(Blk.new w3 #[.int .u8 44] 5).at rfl
     have qdi:Hid (Dg 1 [[Value.int .u8 44]]):=Aa (Dg.one rfl fun u hu=>by rw[List.mem_singleton.1 hu];rfl);have Hx:Hid (((ky++Lib.itoa z).map fun b=>[Value.int .u8 b.toNat]).length=r):=Aa (by rw[List.length_map];exact hr);obtain⟨RS,Gz⟩:=Ae (((ky++Lib.itoa z).map fun b=>[Value.int .u8 b.toNat]));rw[Gz]at iV Hx;have Lw:=Aa Gz;clear hr Iy Ak c0 tD Gz;go_wp2_with (at_builtin;refine Q6 rfl (.tmp 25) (.tmp 26) 22 rfl Tryz.underlying22 qrp (by kernel_rfl) (by decide) rfl iV.out (b:=w3.heap.size) (off:=0) (m:=1) (cap:=1) (ms:=[[.int .u8 44]]) rfl rfl qdi.out Hl.out (by decide) (by rw[Hx.out];simp[maxLen];omega) (by rw[Hx.out];omega) (by simp;omega) ?_;intro g1 cap1 w5 Hh Bo Ie)
     have Rt:Ou B w5 (.slice (some ⟨g1,0,none⟩) (RS.length+1) cap1) (Jf ([]++more.take (j+1))):=by
      rw[Rh.out];refine Ou.ofRows (n:=0) ?_;rw[List.map_append (l₁:=ky++Lib.itoa z),Lw.out];exact Hh
     have Aq:Below B w w5:=((Do.out).alloc (by have := HB.out;omega) _).grown Bo (by simp;omega) (fun r hr=>iV.out.low hr);exact⟨⟨j+1,by omega,by go_num,Rt,Aq⟩,by simp[intOf];omega⟩
    ·obtain rfl:j=m:=by omega
     have Ea:more.take j=more:=List.take_of_length_le (by rw[pW.out];exact Ab _);rw[Ea]at Sw ⊢;have qku:=Aa Sw;clear Sw Ea;go_wp2_with fail
     exact⟨⟨k+1,uA.out.1,rfl,by rw[E1.out];exact qku.out,E9.out⟩,by have := uA.out.2;simp[intOf];omega⟩
  ·have Jk:decide ((k:Int)<2)=true:=decide_eq_true (by omega)
   have g9:k<2:=by omega
   have uA:Hid (k+1<=2/\2-(k+1)<2-k):=Aa (by omega);have Tw:IntKind.i64.wrap ((k:Int)+1)=(k:Int)+1:=IntWalk.i64_in _ (by omega);clear g9
   have e0:(([more,l].take k).flatten)=more:=by rw[Xg];simp
   have e1:(([more,l].take (k+1)).flatten)=more++l:=by rw[Xg];simp
   have E1:=Aa e1;rw[e0]at B7;obtain⟨oa,oc,Is⟩:=B7.form;obtain⟨q,hq⟩:=Ae ((Jf (more:List Int)).length);rw[hq]at Is;subst Is;have xN:=Aa B7;clear B7 e0 e1 hq
   have Ke:∀ w,(Instr.index 147 (.agg #[.slice ma m mc,.slice la n lc]) (.int .i64 (k:Int))).run Tryz.prog w=.ok (.slice la n lc) w:=fun _=>by rw[Xg];kernel_rfl
   clear Xg hk;go_wp2_with fail
   go_loopw [5,18] (fun ov iv wr=>∃ (j:Nat),j<=n/\iv=.int .i64 j/\Ou B wr ov (Jf (more++l.take j))/\Below B w wr) (fun _ iv _=>n-(intOf iv).toNat)
   case atStart=>exact⟨0,Nat.zero_le _,rfl,by rw[List.take_zero,List.append_nil];exact xN.out,Cm.out⟩
   case round =>
    obtain⟨j,hj,rfl,Sw,Xo⟩:=hrel;obtain⟨wi,rfl⟩:∃ wi:World,wi=wr:=⟨_,rfl⟩;obtain⟨ja,jc,rfl⟩:=id Sw.form;have E9:=Aa Xo
    have sL:B<=wi.heap.size:=by have := Xo.size;have := HB.out;omega
    clear Xo
    by_cases Aj:j<n
    ·obtain⟨b,o,rfl,Cj,hc⟩:=HL.out j Aj
     have Ot:j<l.length:=by rw[HN.out];exact Aj
     obtain⟨z,hz⟩:=Ae (l[j]?.getD 0)
     have Oj:l[j]?=some z:=by rw[<- hz,Ac Ot];rfl
     have c0:wi.cell? ⟨b,o+j,none⟩=some (.int .i64 z):=by rw[<- hz];exact(E9.out.cell (p:=⟨b,o+j,none⟩) (Nat.lt_of_lt_of_le Cj hK)).trans (hc j Aj)
     have jH:=Z7.out z (by have := List.mem_of_getElem? Oj;simp[this]);have Rh:Hid (Jf (more++l.take (j+1))=Jf (more++l.take j)++Lib.itoa z++[44]):=Aa (by rw[Q0 Oj,<- List.append_assoc,qom])
     have Hc:=pS (more++l.take j) fun y hy=>Z7.out y (by
      rcases List.mem_append.1 hy with hy | hy
      ·simp at hy ⊢;try exact .inl hy
      ·have := List.mem_of_mem_take hy;simp[this])
     have En:(more++l.take j).length<=2^38:=by rw[List.length_append,List.length_take];have := HN.out;have := pW.out;simp;omega
     obtain⟨ky,eS⟩:=Ae (Jf (more++l.take j));rw[eS]at Sw Hc Rh;have Cr:=Lib.itoa_length_le z (by omega) (by omega);have nC:=Aa Cr;obtain⟨q,hq⟩:=Ae ky.length;rw[eS,hq];have Bw:=Aa hq;rw[hq]at Sw Hc
     have tD:q+21<=2^46:=by omega
     have Dj:=qpj B z (by omega) (by omega) ja jc ky q hq wi Sw sL tD (Lib.TabBelow.on (Pe.up HT.out hK) E9.out);have Gm:=Aa Dj;clear Dj Sw hc hz Oj jH Hc En eS Cr hq;go_wp2_with fail
     refine Gm.out.mono ?_;clear Gm;rintro e w3 ⟨v3,rfl,Iy,Ak⟩;obtain⟨ka,kc,rfl⟩:=id Iy.form;obtain⟨r,hr⟩:=Ae ((ky++Lib.itoa z).length)
     have Np:r<=2^46:=by rw[<- hr,List.length_append,Bw.out];have := nC.out;omega
     have HR:=Aa hr;rw[hr]
     have dO:B<=w3.heap.size:=by have := Ak.size;omega
     have Do:=Aa (E9.out.trans Ak);have iV:Hid (Be 1 5 B (w3.alloc (.cells #[.int .u8 44] 5)) (.slice ka r kc) ((ky++Lib.itoa z).map fun b=>[Value.int .u8 b.toNat])):=Aa (by rw[<- hr];exact(Iy.rows).old (Af _ _) (Ab _))
     have Hl:Hid (∀ (i:Nat) (s:List Value) (j:Nat) (u:Value),([[Value.int .u8 44]]:List (List Value))[i]?=some s->s[j]?=some u->(w3.alloc (.cells #[.int .u8 44] 5)).cell? ⟨w3.heap.size,0+(i*1+j),none⟩=some u):=Aa fun i s j u h1 h2=>by
      have Jo:i=0:=by have := (List.getElem?_eq_some_iff.1 h1).1;simp at this;omega
      subst Jo;cases h1
      have Jb:j=0:=by have := (List.getElem?_eq_some_iff.1 h2).1;simp at this;omega
      subst Jb;cases h2
      exact(Blk.new w3 #[.int .u8 44] 5).at rfl
     have qdi:Hid (Dg 1 [[Value.int .u8 44]]):=Aa (Dg.one rfl fun u hu=>by rw[List.mem_singleton.1 hu];rfl);have Hx:Hid (((ky++Lib.itoa z).map fun b=>[Value.int .u8 b.toNat]).length=r):=Aa (by rw[List.length_map];exact hr);obtain⟨RS,Gz⟩:=Ae (((ky++Lib.itoa z).map fun b=>[Value.int .u8 b.toNat]));rw[Gz]at iV Hx;have Lw:=Aa Gz;clear hr Iy Ak c0 tD Gz;go_wp2_with (at_builtin;refine Q6 rfl (.tmp 25) (.tmp 26) 22 rfl Tryz.underlying22 qrp (by kernel_rfl) (by decide) rfl iV.out (b:=w3.heap.size) (off:=0) (m:=1) (cap:=1) (ms:=[[.int .u8 44]]) rfl rfl qdi.out Hl.out (by decide) (by rw[Hx.out];simp[maxLen];omega) (by rw[Hx.out];omega) (by simp;omega) ?_;intro g1 cap1 w5 Hh Bo Ie)
     have Rt:Ou B w5 (.slice (some ⟨g1,0,none⟩) (RS.length+1) cap1) (Jf (more++l.take (j+1))):=by
      rw[Rh.out];refine Ou.ofRows (n:=0) ?_;rw[List.map_append (l₁:=ky++Lib.itoa z),Lw.out];exact Hh
     have Aq:Below B w w5:=((Do.out).alloc (by have := HB.out;omega) _).grown Bo (by simp;omega) (fun r hr=>iV.out.low hr);exact⟨⟨j+1,by omega,by go_num,Rt,Aq⟩,by simp[intOf];omega⟩
    ·obtain rfl:j=n:=by omega
     have Ea:l.take j=l:=List.take_of_length_le (by rw[HN.out];exact Ab _);rw[Ea]at Sw ⊢;have qku:=Aa Sw;clear Sw Ea;go_wp2_with fail
     exact⟨⟨k+1,uA.out.1,rfl,by rw[E1.out];exact qku.out,E9.out⟩,by have := uA.out.2;simp[intOf];omega⟩
  ·have Jk:decide ((k:Int)<2)=false:=decide_eq_false (by omega)
   have e0:(([more,l].take k).flatten)=more++l:=by rw[Xg];simp
   rw[e0]at B7;have xN:=B7.str;obtain⟨oa,oc,Is⟩:=B7.form;obtain⟨q,hq⟩:=Ae ((Jf (more++l)).length);rw[hq]at Is;subst Is;clear B7 e0 hq Xg hk;go_wp2_with fail
   go_ret
   exact⟨rfl,Cm.out⟩
theorem zbg:(Tryz.prog.info? 3).map (fun i=>(i.zero,i.size,i.bytes))=some (some (.int .i64 0),1,8):=by kernel_rfl
def Gk (base:Nat) (w:World) (v:Value) (zs:List Int):Prop:=w.ownsRow base 3 1 v zs.length (zs.map (Value.int .i64))
theorem Gk.form {base:Nat} {w:World} {v:Value} {zs:List Int} (h:Gk base w v zs):∃ a c,v=.slice a zs.length c/\zs.length<=c/\c<=maxLen:=by
 rcases h.2 with⟨rfl,h0⟩ | ⟨g,cap,cur,rfl,_,_,h1,h2,_⟩
 ·exact⟨none,0,by rw[h0],by omega,by simp[maxLen]⟩
 ·exact⟨_,cap,rfl,h1,h2⟩
theorem Gk.alloc {base:Nat} {w:World} {v:Value} {zs:List Int} (h:Gk base w v zs) (o:Obj):Gk base (w.alloc o) v zs:=World.ownsRow.alloc h o
theorem Gk.below {B base:Nat} {w w':World} {v:Value} {zs:List Int} (h:Gk base w v zs) (hb:Below B w w') (hB:w.heap.size<=B):Gk base w' v zs:=by
 refine⟨h.1,?_⟩
 rcases h.2 with hn | ⟨g,cap,cur,rfl,Bp,hg,rest⟩
 ·exact .inl hn
 ·have := (Array.getElem?_eq_some_iff.1 hg).1
  exact .inr ⟨g,cap,cur,rfl,Bp,(hb.block g (by omega)).trans hg,rest⟩
theorem Gk.kept {base:Nat} {w w':World} {v:Value} {zs:List Int} {row:Option Nat} (h:Gk base w v zs) (hg:w.grownBy w' row) (At:v.ownBlock=none\/v.ownBlock≠row):Gk base w' v zs:=World.ownsRow.kept h hg At
theorem Gk.lt {base:Nat} {W:World} {v:Value} {zs:List Int} (h:Gk base W v zs) {r:Nat} (hr:v.ownBlock=some r):r<W.heap.size:=by
 obtain⟨o,ho,_⟩:=(Or h hr).2;exact(Array.getElem?_eq_some_iff.1 ho).1
theorem Gk.one {base:Nat} (w:World) (z:Int) (hb:base<=w.heap.size):Gk base (w.alloc (.cells #[.int .i64 z] 3)) (.slice (some ⟨w.heap.size,0,none⟩) 1 1) [z] :=
 ⟨rfl,.inr ⟨w.heap.size,1,#[.int .i64 z],rfl,hb,World.alloc_heap_new w _,Ab _,by simp[maxLen],rfl,rfl⟩⟩
theorem Gk.at {base:Nat} {w:World} {zs:List Int} {g n cap:Nat} (h:Gk base w (.slice (some ⟨g,0,none⟩) n cap) zs) (i:Nat) (hi:i<zs.length):w.cell? ⟨g,i,none⟩=some (.int .i64 (zs[i]?.getD 0)):=by
 have := World.ownsRow.cells h (g:=g) rfl i (.int .i64 (zs[i]?.getD 0)) (by simp[hi]);rw[Addr.add]at this
 by_cases h0:i=0
 ·subst h0;simpa using this
 ·simpa [h0] using this
theorem zqh {w:World} {ops:Array Oper} {rest:List Oper} {o:Oper} {a:Act} {Q:Exit->Act->World->Prop} (Gy:o.guard=none) (s x:Operand)
  (ho:o.op=.call { callee:=.builtin .append,args:=#[s,x],argTypes:=#[34,34] })
  {base:Nat} {v:Value} {zs:List Int} {B c:Nat} {z:Int} (hs:a.eval s=v) (hx:a.eval x=.slice (some ⟨B,0,none⟩) 1 c) (Av:Gk base w v zs) (hb:w.cell? ⟨B,0,none⟩=some (.int .i64 z))
  (qY:zs.length+1<=2^40) (Uz:base<=w.heap.size)
  (h:∀ g cap w',Gk base w' (.slice (some ⟨g,0,none⟩) (zs.length+1) cap) (zs++[z])->w.grownBy w' v.ownBlock->(v.ownBlock=some g\/g=w.heap.size)->wpList Tryz.prog ops Q rest (a.put o.dst (.slice (some ⟨g,0,none⟩) (zs.length+1) cap)) w'):wpList Tryz.prog ops Q (o::rest) a w:=by
 obtain⟨i0,hi,Cz,Gb,Ft⟩:=info_parts zbg
 refine wpList_append_lies w Gy s x 34 ho base 3 i0 _ 1 8 Tryz.underlying34 hi Cz Gb Ft rfl (by decide) v zs.length (zs.map (Value.int .i64)) hs Av ⟨B,0,none⟩ 1 c [.int .i64 z] hx rfl
  (fun j u hj=>by
   match j,hj with
   | 0,hj =>
    simp only[List.getElem?_cons_zero,Option.some.injEq]at hj;subst hj
    simpa [Addr.add] using hb)
  (by simp[Value.oneCell']) (by decide) (by simp[maxLen];omega) (by omega) Uz _ rfl fun g cap w' h1 h2 h3 h4=>h g cap w' ?_ h2 h3
 unfold Gk;rw[List.length_append,List.map_append];exact h1
theorem kW {w:World} {b b' e e' z z' n n':Nat} {v v':Value} {xs xs':List Value} (h:w.ownsRow b e z v n xs) (h':w.ownsRow b' e' z' v' n' xs') (At:e≠e'):v.ownBlock=none\/v.ownBlock≠v'.ownBlock:=by
 rcases h.2 with⟨rfl,_⟩ | ⟨g,cap,cur,rfl,_,hg,_⟩
 ·exact .inl rfl
 ·rcases h'.2 with⟨rfl,_⟩ | ⟨g',cap',cur',rfl,_,E5,_⟩
  ·exact .inr (by simp[Value.ownBlock])
  ·refine .inr fun he=>?_
   simp[Value.ownBlock]at he;subst he;rw[hg]at E5;cases E5;exact At rfl
def oQ (e:Gx) (s:Sc):Bool:=(Bf s).all fun c=>(Lp e [s] [(c:Int)]).2==0
def mU (l:List Sc) (e:Gx):Nat:=l.findIdx (oQ e)
def evT (l:List Sc) (cs:List Nat) (e:Gx):Bool :=
 if mU l e<l.length then(Lp e [l[mU l e]?.getD default] [((cs[mU l e]?.getD 0:Nat):Int)]).1 else false
mutual
def evG (l:List Sc) (cs:List Nat):Gx->Bool
 | .mk o n v es=>if(Lp (.mk o n v es) [] []).2=0 then(Lp (.mk o n v es) [] []).1 else if(Gx.mk o n v es).composed then A7 o (fun k=>(evL l cs es)[k]?.getD false)else evT l cs (.mk o n v es)
def evL (l:List Sc) (cs:List Nat):List Gx->List Bool
 | []=>[]
 | e::r=>evG l cs e::evL l cs r
end
theorem zih (l:List Sc) (cs:List Nat) (es:List Gx):evL l cs es=es.map (evG l cs):=by
 induction es with
 | nil=>rw[evL];rfl
 | cons e r ih=>rw[evL,ih];rfl
theorem qjp (l:List Sc) (cs:List Nat) (e:Gx):evG l cs e=if(Lp e [] []).2=0 then(Lp e [] []).1 else if e.composed then A7 e.op (fun k=>(e.args.map (evG l cs))[k]?.getD false)else evT l cs e:=by
 cases e with
 | mk o n v es=>rw[evG,zih];rfl
theorem qz2 {s:Sc} (hs:ScM s) (hf:s.kd≠0->s.cuts≠[]):Bf s≠[]:=fun h=>by
 have := qva hs hf;rw[h]at this;simp at this
def lfS (l:List Sc) (es:List Gx) (cs:List Nat):List Nat:=(List.range es.length).filter fun i=>evG l cs (es[i]?.getD default)
def pcs (l:List Sc):List (List Nat):=l.map Bf
end Go.Proofs.YtlldjmagbjjeoaaGreatDoor
