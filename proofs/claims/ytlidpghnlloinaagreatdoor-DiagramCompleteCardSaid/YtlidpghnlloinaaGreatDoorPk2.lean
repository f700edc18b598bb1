/- Contracts and plain laws, several texts in one (GNum, GNum2, ORF). No conditions beyond those stated. -/
import Derived.LoopN
import Derived.Laws.BitsAllLaws
import Derived.RangeFuncBound
import Derived.RangeFuncCalls
import Derived.RangeFuncLeaves
import Derived.Shelf.RegionOpen
import Derived.OwnWalkIn
import Derived.TacticsInMore
import Derived.LoopNIn
import Derived.LoopIn
import Derived.OrdersHeld
import Derived.Test.YtlidpghnlloinaaGreatDoorPk1
set_option maxRecDepth 100000
set_option maxHeartbeats 40000000
namespace Go.Proofs.YtlidpghnlloinaaGreatDoor
open Go.RowKit
set_option linter.unusedVariables false
def Wd (q : IntKind) (K : Nat) (w : World) (v : Value) (n : Nat) : Prop :=
 (n = 0 /\ ∃ a c,v = .slice a 0 c /\ c <= maxLen) \/ (0 < n /\ ∃ b o c,v = .slice (some ⟨b,o,none⟩) 1 c /\ 1 <= c /\ c <= maxLen /\ b < K /\ w.cell? ⟨b,o,none⟩ = some (.int q n))
def Pre (q : IntKind) (K : Nat) (w : World) (v : Value) (n : Nat) : Prop :=
 (n = 0 /\ ∃ a c,v = .slice a 0 c /\ c <= maxLen) \/ (∃ b o c,v = .slice (some ⟨b,o,none⟩) 1 c /\ 1 <= c /\ c <= maxLen /\ b < K /\ w.cell? ⟨b,o,none⟩ = some (.int q n)) ∨
 (∃ b o c,v = .slice (some ⟨b,o,none⟩) 2 c /\ 2 <= c /\ c <= maxLen /\ b < K /\ w.cell? ⟨b,o,none⟩ = some (.int q n) /\ w.cell? ⟨b,o + 1,none⟩ = some (.int q 0))
section
variable {q : IntKind} {K K' B : Nat} {w w' : World} {v : Value} {n : Nat}
theorem Wd.below (h : Wd q K w v n) (hb : Below B w w') (hB : K <= B) (hK : K <= K') : Wd q K' w' v n:=by
 rcases h with ⟨h0,h1⟩ | ⟨h0,b,o,c,h1,h2,h3,h4,h5⟩
 ·exact .inl ⟨h0,h1⟩
 ·exact .inr ⟨h0,b,o,c,h1,h2,h3,by omega,(hb.cell (p:=⟨b,o,none⟩) (by simp; omega)).trans h5⟩
theorem Wd.pre (h : Wd q K w v n) : Pre q K w v n:=by
 rcases h with ⟨h0,h1⟩ | ⟨h0,h1⟩
 ·exact .inl ⟨h0,h1⟩
 ·exact .inr (.inl h1)
theorem Wd.form (h : Wd q K w v n) : ∃ a m c,v = .slice a m c:=by
 rcases h with ⟨_,a,c,rfl,_⟩ | ⟨_,b,o,c,rfl,_⟩
 ·exact ⟨_,_,_,rfl⟩
 ·exact ⟨_,_,_,rfl⟩
end
theorem Tryz.infoU16 : (Tryz.prog.info? 184).map (fun i => (i.zero,i.size,i.bytes)) = some (some (.int .u16 0),1,2):=by kernel_rfl
theorem Tryz.infoU32 : (Tryz.prog.info? 246).map (fun i => (i.zero,i.size,i.bytes)) = some (some (.int .u32 0),1,4):=by kernel_rfl
theorem make_w0 (w : World) : (Instr.makeSlice 234 (.int .i64 0) (.int .i64 0)).run Tryz.prog w = .ok (.slice (some ⟨w.heap.size,0,none⟩) 0 0) (w.alloc (.cells #[] 246)):=by
 obtain ⟨i0,hi,hz0,hz1,hz2⟩:=info_parts Tryz.infoU32
 have h:=run_make (P:=Tryz.prog) w 234 246 i0 _ Tryz.underlying234 hi hz0 .i64 .i64 0 0 (by omega) (Int.le_refl _) (by rw [hz2]; omega) (by omega)
 rw [hz1,show madeCells (Value.int .u32 0).cells (Int.toNat 0 * 1) = (#[] : Array Value) from by kernel_rfl] at h; exact h
theorem make_w1 (w : World) : (Instr.makeSlice 234 (.int .i64 1) (.int .i64 1)).run Tryz.prog w = .ok (.slice (some ⟨w.heap.size,0,none⟩) 1 1) (w.alloc (.cells #[.int .u32 0] 246)):=by
 obtain ⟨i0,hi,hz0,hz1,hz2⟩:=info_parts Tryz.infoU32
 have h:=run_make (P:=Tryz.prog) w 234 246 i0 _ Tryz.underlying234 hi hz0 .i64 .i64 1 1 (by omega) (Int.le_refl _) (by rw [hz2]; omega) (by omega)
 rw [hz1,show madeCells (Value.int .u32 0).cells (Int.toNat 1 * 1) = (#[.int .u32 0] : Array Value) from by kernel_rfl] at h; exact h
theorem make_w2 (w : World) : (Instr.makeSlice 234 (.int .i64 2) (.int .i64 2)).run Tryz.prog w = .ok (.slice (some ⟨w.heap.size,0,none⟩) 2 2) (w.alloc (.cells #[.int .u32 0,.int .u32 0] 246)):=by
 obtain ⟨i0,hi,hz0,hz1,hz2⟩:=info_parts Tryz.infoU32
 have h:=run_make (P:=Tryz.prog) w 234 246 i0 _ Tryz.underlying234 hi hz0 .i64 .i64 2 2 (by omega) (Int.le_refl _) (by rw [hz2]; omega) (by omega)
 rw [hz1,show madeCells (Value.int .u32 0).cells (Int.toNat 2 * 1) = (#[.int .u32 0,.int .u32 0] : Array Value) from by kernel_rfl] at h; exact h
theorem make_l2 (w : World) : (Instr.makeSlice 41 (.int .i64 2) (.int .i64 2)).run Tryz.prog w = .ok (.slice (some ⟨w.heap.size,0,none⟩) 2 2) (w.alloc (.cells #[.int .u16 0,.int .u16 0] 184)):=by
 obtain ⟨i0,hi,hz0,hz1,hz2⟩:=info_parts Tryz.infoU16
 have h:=run_make (P:=Tryz.prog) w 41 184 i0 _ Tryz.underlying41 hi hz0 .i64 .i64 2 2 (by omega) (Int.le_refl _) (by rw [hz2]; omega) (by omega)
 rw [hz1,show madeCells (Value.int .u16 0).cells (Int.toNat 2 * 1) = (#[.int .u16 0,.int .u16 0] : Array Value) from by kernel_rfl] at h; exact h
theorem trim_any (K : Nat) (v : Value) (n : Nat) (w : World) (h : Pre .u32 K w v n) : Calls Tryz.prog 257 #[v] w fun e w' => ∃ v',e = .returned v' /\ Wd .u32 K w v' n /\ w' = w:=by
 rcases h with ⟨rfl,a,c,rfl,hc⟩ | ⟨b,o,c,rfl,h1,hc,hb,h5⟩ | ⟨b,o,c,rfl,h1,hc,hb,h5,h6⟩
 ·go_enter Tryz.func257,Tryz.ntmps257
  go_wp2_with fail
  refine wp_loop_rounds 1 ?_
  rw [rounds_succ]
  go_wp2_with fail
  go_ret
  exact ⟨_,rfl,.inl ⟨rfl,_,_,rfl,hc⟩,rfl⟩
 ·go_enter Tryz.func257,Tryz.ntmps257
  go_wp2_with fail
  refine wp_loop_rounds 2 ?_
  rw [rounds_succ]
  by_cases h0 : n = 0
  ·subst h0
   go_wp2_with fail
   rw [rounds_succ]
   go_wp2_with fail
   go_ret
   exact ⟨_,rfl,.inl ⟨rfl,_,_,rfl,hc⟩,rfl⟩
  ·have hx : ((n : Int) == 0) = false:=by simp; omega
   go_wp2_with fail
   go_ret
   exact ⟨_,rfl,.inr ⟨by omega,b,o,c,rfl,h1,hc,hb,h5⟩,rfl⟩
 ·go_enter Tryz.func257,Tryz.ntmps257
  go_wp2_with fail
  refine wp_loop_rounds 3 ?_
  rw [rounds_succ]
  go_wp2_with fail
  rw [rounds_succ]
  by_cases h0 : n = 0
  ·subst h0
   go_wp2_with fail
   rw [rounds_succ]
   go_wp2_with fail
   go_ret
   exact ⟨_,rfl,.inl ⟨rfl,_,_,rfl,hc⟩,rfl⟩
  ·have hx : ((n : Int) == 0) = false:=by simp; omega
   go_wp2_with fail
   go_ret
   exact ⟨_,rfl,.inr ⟨by omega,b,o,c,rfl,by omega,hc,hb,h5⟩,rfl⟩
theorem compare_any (K : Nat) (u v : Value) (m n : Nat) (w : World) (hu : Wd .u32 K w u m) (hv : Wd .u32 K w v n) : Calls Tryz.prog 215 #[u,v] w fun e w' => e = .returned (.int .i64 (if m < n then -1 else if n < m then 1 else 0)) /\ ∃ k,w' = w.drewN k:=by
 rcases hu with ⟨rfl,a,c,rfl,hc⟩ | ⟨h0,b,o,c,rfl,h1,hc,hb,h5⟩
 ·rcases hv with ⟨rfl,a',c',rfl,hc'⟩ | ⟨h0',b',o',c',rfl,h1',hc',hb',h5'⟩
  ·go_enter Tryz.func215,Tryz.ntmps215
   go_wp2_with fail
   refine wp_loop_rounds 1 ?_
   rw [rounds_succ]
   go_wp2_with fail
   go_ret
   exact ⟨rfl,0,rfl⟩
  ·have e : (if 0 < n then (-1 : Int) else if n < 0 then 1 else 0) = -1:=by rw [if_pos h0']
   rw [e]
   clear e
   go_enter Tryz.func215,Tryz.ntmps215
   go_wp2_with fail
   go_ret
   exact ⟨rfl,0,rfl⟩
 ·rcases hv with ⟨rfl,a',c',rfl,hc'⟩ | ⟨h0',b',o',c',rfl,h1',hc',hb',h5'⟩
  ·have e : (if m < 0 then (-1 : Int) else if 0 < m then 1 else 0) = 1:=by rw [if_neg (by omega),if_pos h0]
   rw [e]
   clear e
   go_enter Tryz.func215,Tryz.ntmps215
   go_wp2_with fail
   go_ret
   exact ⟨rfl,0,rfl⟩
  ·by_cases he : m = n
   ·subst he
    have e : (if m < m then (-1 : Int) else if m < m then 1 else 0) = 0:=by simp
    rw [e]
    have hx : ((m : Int) != m) = false:=by simp
    clear e
    go_enter Tryz.func215,Tryz.ntmps215
    go_wp2_with fail
    refine wp_loop_rounds 2 ?_
    rw [rounds_succ]
    go_upto_region 8 with fail
    go_quiet (fail)
    go_wp2_with fail
    rw [rounds_succ]
    go_wp2_with fail
    go_ret
    exact ⟨rfl,_,rfl⟩
   ·have hx : ((m : Int) != n) = true:=by simp; omega
    by_cases hl : m < n
    ·rw [if_pos hl]
     have hy : decide ((m : Int) < n) = true:=by simp; omega
     go_enter Tryz.func215,Tryz.ntmps215
     go_wp2_with fail
     refine wp_loop_rounds 1 ?_
     rw [rounds_succ]
     go_upto_region 8 with fail
     go_quiet (fail)
     go_upto_region 9 with fail
     go_quiet (fail)
     go_wp2_with fail
     go_ret
     exact ⟨rfl,_,by first | rfl | exact drewN_two _ _ _⟩
    ·rw [if_neg hl,if_pos (by omega)]
     have hy : decide ((m : Int) < n) = false:=by simp; omega
     go_enter Tryz.func215,Tryz.ntmps215
     go_wp2_with fail
     refine wp_loop_rounds 1 ?_
     rw [rounds_succ]
     go_upto_region 8 with fail
     go_quiet (fail)
     go_upto_region 9 with fail
     go_quiet (fail)
     go_wp2_with fail
     go_ret
     exact ⟨rfl,_,by first | rfl | exact drewN_two _ _ _⟩
theorem pack_any (K : Nat) (v : Value) (n : Nat) (w : World) (h : Wd .u16 K w v n) (hK : K <= w.heap.size) (hn : n < 65536) : Calls Tryz.prog 216 #[v] w fun e w' => ∃ v',e = .returned v' /\ Wd .u32 w'.heap.size w' v' n /\ Below w.heap.size w w':=by
 rcases h with ⟨rfl,a,c,rfl,hc⟩ | ⟨h0,b,o,c,rfl,h1,hc,hb,h5⟩
 ·have hm:=make_w0
  go_enter Tryz.func216,Tryz.ntmps216
  go_wp2_with fail
  refine wp_loop_rounds 1 ?_
  rw [rounds_succ]
  go_wp2_with fail
  go_ret
  exact ⟨_,rfl,.inl ⟨rfl,_,_,rfl,by simp [maxLen]⟩,(Below.refl _ _).alloc (Nat.le_refl _) _⟩
 ·have hm:=make_w1
  have hne : ¬ b = w.heap.size:=by omega
  have hlt : b < w.heap.size:=by omega
  go_enter Tryz.func216,Tryz.ntmps216
  go_wp2_with fail
  refine wp_loop_rounds 2 ?_
  rw [rounds_succ]
  go_upto_region 5 with fail
  have hbits : bits BinOp.or IntKind.u32 0 (n : Int) = n:=by have := u32_or_nat 0 n (by decide) (by omega); simpa using this
  go_region
  go_wp2_with fail
  rw [rounds_succ]
  go_wp2_with fail
  go_ret
  exact ⟨_,rfl,.inr ⟨h0,_,_,_,rfl,by omega,by simp [maxLen],by simp,by simp⟩,((Below.refl _ w).alloc (Nat.le_refl _) _).trans ⟨rfl,rfl,rfl,Nat.le_refl _,fun _ _ => rfl⟩⟩
theorem Pre.below {q : IntKind} {K K' B : Nat} {w w' : World} {v : Value} {n : Nat} (h : Pre q K w v n) (hb : Below B w w') (hB : K <= B) (hK : K <= K') : Pre q K' w' v n:=by
 rcases h with ⟨h0,h1⟩ | ⟨b,o,c,rfl,h1,hc,hb',h5⟩ | ⟨b,o,c,rfl,h1,hc,hb',h5,h6⟩
 ·exact .inl ⟨h0,h1⟩
 ·exact .inr (.inl ⟨b,o,c,rfl,h1,hc,by omega,(hb.cell (p:=⟨b,o,none⟩) (by simp; omega)).trans h5⟩)
 ·exact .inr (.inr ⟨b,o,c,rfl,h1,hc,by omega,(hb.cell (p:=⟨b,o,none⟩) (by simp; omega)).trans h5,(hb.cell (p:=⟨b,o + 1,none⟩) (by simp; omega)).trans h6⟩)
def NewV (L : Nat) (v : Value) : Prop:=∀ b o m c,v = .slice (some ⟨b,o,none⟩) m c -> L <= b
theorem NewV.nil (L m c : Nat) : NewV L (.slice none m c):=fun b o m c e => by simp at e
theorem NewV.at {L b o m c : Nat} (h : L <= b) : NewV L (.slice (some ⟨b,o,none⟩) m c):=fun b' o' m' c' e => by simp at e; omega
theorem NewV.mono {L L' : Nat} {v : Value} (h : NewV L v) (hl : L' <= L) : NewV L' v:=fun b o m c e => Nat.le_trans hl (h b o m c e)
theorem Wd.set {q : IntKind} {K r i L : Nat} {w : World} {v x : Value} {n : Nat} (h : Wd q K w v n) (hn : NewV L v) (hr : r < L) : Wd q K (w.setCell ⟨r,i,none⟩ x) v n:=by
 rcases h with ⟨h0,h1⟩ | ⟨h0,b,o,c,rfl,h2,h3,h4,h5⟩
 ·exact .inl ⟨h0,h1⟩
 ·have := hn b o 1 c rfl
  exact .inr ⟨h0,b,o,c,rfl,h2,h3,h4,((grownBy_setCell w r i x).cell h5 (by simp; omega))⟩
theorem unpack_any (K : Nat) (v : Value) (n : Nat) (w : World) (h : Pre .u32 K w v n) (hK : K <= w.heap.size) (hn : n < 65536) : Calls Tryz.prog 242 #[.bool false,v] w fun e w' => ∃ v',e = .returned (.agg #[.bool false,v']) /\ Wd .u16 w'.heap.size w' v' n /\ Below w.heap.size w w' /\ NewV w.heap.size v':=by
 have hp:=h.below ((Below.refl w.heap.size w).alloc (Nat.le_refl _) (.cells #[.bool false,.slice none 0 0] 43)) hK (Nat.le_refl K)
 have ht:=trim_any K v n _ hp
 clear hp h
 go_enter Tryz.func242,Tryz.ntmps242
 go_wp2_with fail
 refine ht.mono ?_
 rintro e w2 ⟨v',rfl,hv,rfl⟩
 clear ht
 rcases hv with ⟨rfl,a,c,rfl,hc⟩ | ⟨h0,b,o,c,rfl,h1,hc,hb,h5⟩
 ·go_wp2_with fail
  refine bodyPost_ret (v:=.agg #[.bool false,.slice none 0 0]) (by simp [results,Tryz.results242,go_sem]) rfl ?_
  exact ⟨_,rfl,.inl ⟨rfl,_,_,rfl,by simp [maxLen]⟩,((Below.refl _ w).alloc (Nat.le_refl _) _),NewV.nil _ _ _⟩
 ·have hm:=make_l2
  have hlt : b < w.heap.size:=by omega
  have hne : ¬ b = w.heap.size:=by omega
  have hne2 : ¬ b = w.heap.size + 1:=by omega
  have h5 : w.cell? ⟨b,o,none⟩ = some (.int .u32 n):=(((Below.refl w.heap.size w).alloc (Nat.le_refl _) (.cells #[.bool false,.slice none 0 0] 43)).cell (p:=⟨b,o,none⟩) hlt).symm.trans h5
  go_wp2_with fail
  refine wp_loop_rounds 2 ?_
  rw [rounds_succ]
  go_wp2_with fail
  rw [rounds_succ]
  go_wp2_with fail
  refine bodyPost_ret (v:=.agg #[.bool false,.slice (some ⟨w.heap.size + 1,0,none⟩) 1 2]) (by simp [results,Tryz.results242,go_sem]) rfl ?_
  exact ⟨_,rfl,.inr ⟨h0,_,_,_,rfl,by omega,by simp [maxLen],by simp,by simp⟩,((Below.refl _ w).alloc (Nat.le_refl _) _).alloc (by simp) _,NewV.at (by omega)⟩
theorem below_quiet {B : Nat} {a w : World} (h : Below B a w) : Below B a w.drew:=h.trans ⟨rfl,rfl,rfl,Nat.le_refl _,fun _ _ => rfl⟩
theorem times_any (K : Nat) (u v : Value) (m n : Nat) (w : World) (hu : Wd .u32 K w u m) (hv : Wd .u32 K w v n) (hK : K <= w.heap.size) (hmn : m * n < 65536) (hm : m < 65536) (hn : n < 65536) :
  Calls Tryz.prog 241 #[u,v] w fun e w' => ∃ v',e = .returned v' /\ Wd .u32 w'.heap.size w' v' (m * n) /\ Below w.heap.size w w':=by
 have fin : ∀ (W : World) (x : Value),Below w.heap.size w W -> Pre .u32 W.heap.size W x (m * n) -> Calls Tryz.prog 257 #[x] W fun e w' => ∃ v',e = .returned v' /\ Wd .u32 w'.heap.size w' v' (m * n) /\ Below w.heap.size w w':=fun W x hb hp => (trim_any _ x _ W hp).mono (by rintro e w' ⟨v',rfl,h,rfl⟩; exact ⟨v',rfl,h,hb⟩)
 have m0:=make_w0
 have m1:=make_w1
 have m2:=make_w2
 rcases hu with ⟨rfl,a,c,rfl,hc⟩ | ⟨h0,b,o,c,rfl,h1,hc,hb,h5⟩
 ·rcases hv with ⟨rfl,a',c',rfl,hc'⟩ | ⟨h0',b',o',c',rfl,h1',hc',hb',h5'⟩
  ·go_enter Tryz.func241,Tryz.ntmps241
   go_wp2_with fail
   refine wp_loop_rounds 1 ?_
   rw [rounds_succ]
   go_wp2_with fail
   refine (fin _ _ ((Below.refl _ w).alloc (Nat.le_refl _) _) (.inl ⟨by omega,_,_,rfl,by simp [maxLen]⟩)).mono ?_
   rintro e w' ⟨v',rfl,h⟩
   go_wp2_with fail
   go_ret
   exact ⟨_,rfl,h⟩
  ·go_enter Tryz.func241,Tryz.ntmps241
   go_wp2_with fail
   refine wp_loop_rounds 1 ?_
   rw [rounds_succ]
   go_wp2_with fail
   refine (fin _ _ ((Below.refl _ w).alloc (Nat.le_refl _) _) (.inr (.inl ⟨_,_,_,rfl,by omega,by simp [maxLen],by simp,by simp⟩))).mono ?_
   rintro e w' ⟨v',rfl,h⟩
   go_wp2_with fail
   go_ret
   exact ⟨_,rfl,h⟩
 ·have hlt : b < w.heap.size:=by omega
  have hne : ¬ b = w.heap.size:=by omega
  rcases hv with ⟨rfl,a',c',rfl,hc'⟩ | ⟨h0',b',o',c',rfl,h1',hc',hb',h5'⟩
  ·go_enter Tryz.func241,Tryz.ntmps241
   go_wp2_with fail
   refine wp_loop_rounds 2 ?_
   rw [rounds_succ]
   go_wp2_with fail
   refine wp_loop_rounds 1 ?_
   rw [rounds_succ]
   go_wp2_with fail
   rw [rounds_succ]
   go_wp2_with fail
   refine (fin _ _ ((Below.refl _ w).alloc (Nat.le_refl _) _) (.inr (.inl ⟨_,_,_,rfl,by omega,by simp [maxLen],by simp,by simp⟩))).mono ?_
   rintro e w' ⟨v',rfl,h⟩
   go_wp2_with fail
   go_ret
   exact ⟨_,rfl,h⟩
  ·have hlt' : b' < w.heap.size:=by omega
   have hne' : ¬ b' = w.heap.size:=by omega
   obtain ⟨p,hp⟩ : ∃ p,m * n = p:=⟨_,rfl⟩
   have hpi : ((m : Int) * (n : Int)) = (p : Int):=by rw [<- hp]; simp
   rw [hp] at fin hmn ⊢
   go_enter Tryz.func241,Tryz.ntmps241
   go_wp2_with fail
   refine wp_loop_rounds 2 ?_
   rw [rounds_succ]
   go_wp2_with fail
   refine wp_loop_rounds 2 ?_
   rw [rounds_succ]
   go_wp2_with fail
   rw [rounds_succ]
   go_wp2_with fail
   rw [rounds_succ]
   go_wp2_with fail
   refine (fin _ _ ((Below.refl _ w).alloc (Nat.le_refl _) _) (.inr (.inr ⟨_,_,_,rfl,by omega,by simp [maxLen],by simp,by simp,by simp; omega⟩))).mono ?_
   rintro e w' ⟨v',rfl,h⟩
   go_wp2_with fail
   go_ret
   exact ⟨_,rfl,h⟩
theorem short_any (n : Nat) (w : World) (hn : n < 65536) :
  Calls Tryz.prog 261 #[.int .u64 n] w fun e w' => ∃ v',e = .returned v' /\ Wd .u32 w'.heap.size w' v' n /\ Below w.heap.size w w':=by
 have fin : ∀ (W : World) (x : Value),Below w.heap.size w W -> Pre .u32 W.heap.size W x n -> Calls Tryz.prog 257 #[x] W fun e w' => ∃ v',e = .returned v' /\ Wd .u32 w'.heap.size w' v' n /\ Below w.heap.size w w':=fun W x hb hp => (trim_any _ x _ W hp).mono (by rintro e w' ⟨v',rfl,h,rfl⟩; exact ⟨v',rfl,h,hb⟩)
 go_enter Tryz.func261,Tryz.ntmps261
 go_wp2_with fail
 refine (fin _ _ ((Below.refl _ w).alloc (Nat.le_refl _) _) (.inr (.inr ⟨_,_,_,rfl,by omega,by simp [maxLen],by simp,by simp,by simp; omega⟩))).mono ?_
 rintro e w' ⟨v',rfl,h⟩
 go_wp2_with fail
 go_ret
 exact ⟨_,rfl,h⟩
def IterSt {α : Type} (P : Program) (gf : Nat) (mk : Nat -> Array Value) (encs : α -> Array Value) (Xp : List α -> α -> World -> Prop) (St Kp : World -> World -> Prop) (S Sp : List α -> World -> Prop) (Pre : World -> Prop) : Prop :=
 ∀ (n l : Nat) (J Jx : List α -> World -> Prop) (W : World),Pre W -> (∀ s A B,J s A -> St A B -> J s B) -> (∀ s A B,Jx s A -> St A B -> Jx s B) →
  (∀ pre x W1,J pre W1 -> Xp pre x W1 -> YieldAt Fence.wide (n - 1) P l (encs x) W1 fun e W' =>
   (e = .returned (.bool true) /\ J (pre ++ [x]) W' /\ Kp W1 W') \/ (e = .returned (.bool false) /\ Jx (pre ++ [x]) W' /\ Kp W1 W')) →
  J [] W →
  CallsIn Fence.wide n P gf (mk l) W fun e W' => (∃ v,e = .returned v) /\ ((∃ xs,S xs W' /\ J xs W') \/ (∃ pre,Sp pre W' /\ Jx pre W'))
def roundLeft {α : Type} (B : Nat) (Kp : World -> World -> Prop) (I : List α -> World -> Prop) (Ix : Code -> List α -> World -> Prop) (xs : List α) (W : World) : Exit -> Act -> World -> Prop
 | .normal,_,W' => KeepsFrom B W W' /\ Kp W W' /\ I xs W'
 | .ret,_,W' => KeepsFrom B W W' /\ Kp W W' /\ Ix .ret xs W'
 | .exit id,_,W' => KeepsFrom B W W' /\ Kp W W' /\ Ix (.exit id) xs W'
 | .goto t,_,W' => KeepsFrom B W W' /\ Kp W W' /\ Ix (.goto t) xs W'
 | .panic _,_,_ => False
 | .outgrown,_,_ => False
def Minds (B : Nat) (K : World -> Prop) : Prop:=∀ (W : World) (l : Nat) (o o' : Obj),K W -> B <= l -> W.heap[l]? = some o -> o.isCells = false -> K (W.putObj l o')
theorem wide_depth {n : Nat} (h : Fence.wide.depth.isSome = true) : 1 <= n:=by simp [Fence.wide] at h
theorem range_law {P : Program} {α : Type} {g : Operand} {ps : Array Tmp} {assign body : Code} {Q : Exit -> Act -> World -> Prop} {a : Act} {w : World} {n gf : Nat} {fi lb : Array Value}
  (hg : a.eval g = .func (.func gf) fi lb) (eg : ∀ args w,(callFunc gf args).run P w = .ok (.enter gf args) w)
  {encs : α -> Array Value} {Xp : List α -> α -> World -> Prop} {St Kp : World -> World -> Prop} {S Sp : List α -> World -> Prop} {Pre : World -> Prop}
  (hseq : IterSt P gf (fun l => fi ++ #[.func (.yield l) #[] #[]] ++ lb) encs Xp St Kp S Sp Pre)
  (hps : ∀ x,(encs x).size = ps.size)
  (I : List α -> World -> Prop) (Ix : Code -> List α -> World -> Prop) (A1 : List α -> α -> Act -> World -> Prop)
  (hSt : ∀ A B,w.heap.size <= A.heap.size -> St A B -> KeepsFrom w.heap.size A B)
  (hI : ∀ s,Minds w.heap.size (I s)) (hIx : ∀ c s,Minds w.heap.size (Ix c s)) (hA : ∀ s x a1,Minds w.heap.size (A1 s x a1))
  (hS : ∀ s,Minds w.heap.size (S s)) (hSp : ∀ s,Minds w.heap.size (Sp s))
  (hISt : ∀ s A B,I s A -> St A B -> I s B) (hIxSt : ∀ c s A B,Ix c s A -> St A B -> Ix c s B)
  (hKt : ∀ A B C,Kp A B -> Kp B C -> Kp A C) (hKb : ∀ (W : World) (l : Nat) (o o' : Obj),w.heap.size <= l -> W.heap[l]? = some o -> o.isCells = false -> Kp W (W.putObj l o'))
  (h0 : ∀ o o',I [] ((w.alloc o).alloc o')) (hPre : ∀ o o',Pre ((w.alloc o).alloc o'))
  (hassign : ∀ (l : Nat) (pre : List α) (x : α) (W : World),I pre W -> Xp pre x W -> w.heap.size + 1 < W.heap.size →
   assign.wpIn (Fence.wide.inRound l) (n - 1 - 1) P (Exit.then (fun a1 W1 => KeepsFrom w.heap.size W W1 /\ Kp W W1 /\ A1 pre x a1 W1) (fun _ _ _ => False)) { tmps:=(ps.zip (encs x)).foldl (fun t (p,v) => t.setIfInBounds p v) a.tmps,defers:=[] } W)
  (hbody : ∀ (l : Nat) (pre : List α) (x : α) (a1 : Act) (W : World),A1 pre x a1 W -> body.wpIn (Fence.wide.inRound l) (n - 1 - 1) P (roundLeft w.heap.size Kp I Ix (pre ++ [x]) W) a1 W)
  (hdone : ∀ (D : Nat) (xs : List α) (W : World),w.heap.size <= D -> S xs W -> I xs W -> W.heap[D]? = some (.deferred (some [])) -> Q .normal { a with defers:={ target:=.collected D,args:=#[] } :: a.defers } W)
  (hstop : ∀ (D : Nat) (c : Code) (pre : List α) (W : World),w.heap.size <= D -> Sp pre W -> Ix c pre W -> W.heap[D]? = some (.deferred (some [])) -> c.wpIn Fence.wide n P Q { a with defers:={ target:=.collected D,args:=#[] } :: a.defers } W) :
  (Code.rangeFunc g ps assign body).wpIn Fence.wide n P Q a w:=by
 refine wpIn_rangeFunc fun fn _ => ?_
 obtain ⟨B,hB⟩ : ∃ B,w.heap.size = B:=⟨_,rfl⟩
 obtain ⟨rc,hrc⟩ : ∃ rc : LoopState -> Option Code -> Loop,rc = fun st pe => { state:=st,pending:=pe,fn,tmps:=a.tmps,params:=ps,assign,body,defers:=B }:=⟨_,rfl⟩
 let bk (st : LoopState) (pe : Option Code) (W : World) : Prop:=W.heap[B + 1]? = some (.loop (rc st pe)) /\ W.heap[B]? = some (.deferred (some []))
 have hkeep : ∀ {st pe} {A C : World},KeepsFrom B A C -> bk st pe A -> bk st pe C:=fun hk hb => ⟨hk.same _ _ (by omega) hb.1 rfl,hk.same _ _ (Nat.le_refl _) hb.2 rfl⟩
 have hput : ∀ {st pe} {st' pe'} {A : World},bk st pe A -> bk st' pe' (A.putObj (B + 1) (.loop (rc st' pe'))):=fun hb =>
  ⟨World.putObj_heap_same (Array.getElem?_eq_some_iff.1 hb.1).1,(World.putObj_heap_other (by omega)).trans hb.2⟩
 obtain ⟨W1,hW1⟩ : ∃ W1,(w.alloc (.deferred (some []))).alloc (.loop (rc .ready none)) = W1:=⟨_,rfl⟩
 have hbk1 : bk .ready none W1:=by
  subst hB hW1
  constructor
  ·have := World.alloc_heap_new (w.alloc (.deferred (some []))) (.loop (rc .ready none)); rwa [World.size_alloc] at this
  ·exact (Below.heap_alloc _ _ _ (by simp)).trans (World.alloc_heap_new w _)
 have hres : (resolve a.eval (rangeCall g (B + 1)) 0).run P W1 = .ok { target:=.fn (.func gf) lb,args:=fi ++ #[.func (.yield (B + 1)) #[] #[]] } W1:=by
  simp only [resolve,hg]
  simp [go_sem]
 have hinv : (invoke (.fn (.func gf) lb) (fi ++ #[.func (.yield (B + 1)) #[] #[]])).run P W1 = .ok (.enter gf (fi ++ #[.func (.yield (B + 1)) #[] #[]] ++ lb)) W1:=by
  simp [invoke,go_sem,eg]
 refine ⟨B + 1,[{ target:=.collected B,args:=#[] }],W1,_,W1,gf,_,W1,?_,hres,fun _ _ => trivial,hinv,wide_depth,?_⟩
 ·rw [<- hW1,hrc,<- hB]; exact run_enterLoop_outer _ _ _ _ _
 refine (hseq (n - 1) (B + 1) (fun pre W => I pre W /\ bk .ready none W) (fun pre W => ∃ c,Ix c pre W /\ bk .done (some c) W) W1 (hW1 ▸ hPre _ _) ?_ ?_ ?_ ⟨hW1 ▸ h0 _ _,hbk1⟩).mono ?_
 ·rintro s A C ⟨hi,hb⟩ hst
  have hsz : w.heap.size <= A.heap.size:=by have := (Array.getElem?_eq_some_iff.1 hb.2).1; omega
  exact ⟨hISt s A C hi hst,hkeep (hB ▸ hSt A C hsz hst) hb⟩
 ·rintro s A C ⟨c,hi,hb⟩ hst
  have hsz : w.heap.size <= A.heap.size:=by have := (Array.getElem?_eq_some_iff.1 hb.2).1; omega
  exact ⟨c,hIxSt c s A C hi hst,hkeep (hB ▸ hSt A C hsz hst) hb⟩
 ·-- one round
  rintro pre x W ⟨hi,hb⟩ hx
  have hlt : w.heap.size + 1 < W.heap.size:=by have := (Array.getElem?_eq_some_iff.1 hb.1).1; omega
  have hy:=run_yield (P:=P) (args:=encs x) hb.1 (by rw [hrc]; exact hps x)
  refine ⟨_,_,_,_,hy,roundIn_of_wpIn trivial ?_⟩
  have hasg:=hassign (B + 1) pre x W hi hx hlt
  rw [show (rc .ready none).tmps = a.tmps by rw [hrc],show (rc .ready none).params = ps by rw [hrc],show (rc .ready none).assign = assign by rw [hrc],show (rc .ready none).body = body by rw [hrc]]
  refine wpIn_mono hasg ?_
  rintro e a1 W2 hp
  cases e with
  | normal =>
   obtain ⟨hk2,hkp2,ha1⟩:=hp
   rw [hB] at hk2
   have hb2:=hkeep hk2 hb
   refine ⟨_,run_beginRound hb2.1 (by rw [hrc]),?_⟩
   have hbusy : ({ rc .ready none with state:=.busy } : Loop) = rc .busy none:=by rw [hrc]
   rw [hbusy]
   have hb3 : bk .busy none (W2.putObj (B + 1) (.loop (rc .busy none))):=hput hb2
   have hkp3 : Kp W (W2.putObj (B + 1) (.loop (rc .busy none))):=hKt _ _ _ hkp2 (hKb _ _ _ _ (by omega) hb2.1 rfl)
   refine wpIn_mono (hbody (B + 1) pre x a1 _ (hA _ _ _ _ _ _ _ ha1 (by omega) hb2.1 rfl)) ?_
   rintro e a3 W3 hp
   have fin : ∀ (jump : Option Code),KeepsFrom w.heap.size (W2.putObj (B + 1) (.loop (rc .busy none))) W3 -> Kp (W2.putObj (B + 1) (.loop (rc .busy none))) W3 →
     (Instr.endRound (B + 1) jump).run P W3 = .ok (.bool jump.isNone) (W3.putObj (B + 1) (.loop (rc (if jump.isNone then .ready else .done) jump))) ∧
     bk .busy none W3 /\ bk (if jump.isNone then .ready else .done) jump (W3.putObj (B + 1) (.loop (rc (if jump.isNone then .ready else .done) jump))) /\ Kp W (W3.putObj (B + 1) (.loop (rc (if jump.isNone then .ready else .done) jump))):=fun jump hk3 hkp => by
    rw [hB] at hk3
    have hb4:=hkeep hk3 hb3
    have hr:=run_endRound (P:=P) jump hb4.1
    have he : ({ rc .busy none with state:=if jump.isNone then .ready else .done,pending:=jump } : Loop) = rc (if jump.isNone then .ready else .done) jump:=by rw [hrc]
    rw [he] at hr
    exact ⟨hr,hb4,hput hb4,hKt _ _ _ (hKt _ _ _ hkp3 hkp) (hKb _ _ _ _ (by omega) hb4.1 rfl)⟩
   cases e with
   | normal =>
    obtain ⟨hk3,hkp,hi3⟩:=hp
    obtain ⟨hr,hb4,hb5,hkp5⟩:=fin none hk3 hkp
    exact ⟨_,_,hr,.inl ⟨rfl,⟨hI _ _ _ _ _ hi3 (by omega) hb4.1 rfl,hb5⟩,hkp5⟩⟩
   | ret =>
    obtain ⟨hk3,hkp,hi3⟩:=hp
    obtain ⟨hr,hb4,hb5,hkp5⟩:=fin (some .ret) hk3 hkp
    exact ⟨_,_,hr,.inr ⟨rfl,⟨.ret,hIx _ _ _ _ _ _ hi3 (by omega) hb4.1 rfl,hb5⟩,hkp5⟩⟩
   | exit id =>
    obtain ⟨hk3,hkp,hi3⟩:=hp
    obtain ⟨hr,hb4,hb5,hkp5⟩:=fin (some (.exit id)) hk3 hkp
    exact ⟨_,_,hr,.inr ⟨rfl,⟨.exit id,hIx _ _ _ _ _ _ hi3 (by omega) hb4.1 rfl,hb5⟩,hkp5⟩⟩
   | goto t =>
    obtain ⟨hk3,hkp,hi3⟩:=hp
    obtain ⟨hr,hb4,hb5,hkp5⟩:=fin (some (.goto t)) hk3 hkp
    exact ⟨_,_,hr,.inr ⟨rfl,⟨.goto t,hIx _ _ _ _ _ _ hi3 (by omega) hb4.1 rfl,hb5⟩,hkp5⟩⟩
   | panic ch => exact hp.elim
   | outgrown => exact hp.elim
  | exit id => exact hp.elim
  | ret => exact hp.elim
  | goto t => exact hp.elim
  | panic ch => exact hp.elim
  | outgrown => exact hp.elim
 ·-- behind the iterator
  have hbusy : ∀ st,st ≠ LoopState.busy -> ∀ pe,(rc st pe).state ≠ .busy:=fun st h pe => by rw [hrc]; exact h
  have hpe : ∀ st pe,(rc st pe).pending = pe:=fun st pe => by rw [hrc]
  rintro e W2 ⟨⟨v,rfl⟩,(⟨xs,hs,hi,hb⟩ | ⟨pre,hs,c,hi,hb⟩)⟩
  ·have hr:=run_endLoop (P:=P) hb.1 (hbusy _ (by simp) _)
   rw [hpe] at hr
   exact ⟨none,_,hr,hdone B xs _ (by omega) (hS _ _ _ _ _ hs (by omega) hb.1 rfl) (hI _ _ _ _ _ hi (by omega) hb.1 rfl) ((World.putObj_heap_other (by omega)).trans hb.2)⟩
  ·have hr:=run_endLoop (P:=P) hb.1 (hbusy _ (by simp) _)
   rw [hpe] at hr
   exact ⟨some c,_,hr,hstop B c pre _ (by omega) (hSp _ _ _ _ _ hs (by omega) hb.1 rfl) (hIx _ _ _ _ _ _ hi (by omega) hb.1 rfl) ((World.putObj_heap_other (by omega)).trans hb.2)⟩
section
variable {P : Program} {ops : Array Oper} {Q : Exit -> Act -> World -> Prop} {md : Region.Mode}
theorem rows_wide {row : String} {args : Array Value} {w : World} {R : Value -> World -> Prop} {n : Nat} (h : Rows P row args w R) : RowsIn Fence.wide n P row args w R:=by
 exact fun c cs _ => let ⟨v,w',r,s⟩:=h c cs; ⟨v,w',r,stepsIn_wide.2 s⟩
theorem wpIn_round_of_wp {l n : Nat} {o : Oper} {a : Act} {w : World} {K : Act -> World -> Prop} (hd : ∀ c,o.op ≠ .defer c) (h : o.wp P a w K Q) : o.wpIn (Fence.wide.inRound l) n P a w K Q:=by
 refine ⟨fun _ _ => trivial,?_⟩
 rw [show (Fence.wide.inRound l).round = some l from rfl,Oper.semAt_some l _ _ hd]
 unfold Oper.wp at h
 generalize (execOp a.eval o).run P w = r at h
 cases r with
 | ok x w' =>
  cases x <;> simp only [Oper.upon,Oper.uponIn] at h ⊢ <;> try exact h
  case enter f args =>
   exact ⟨wide_depth,(CallsIn.inRound l (callsIn_wide.2 h)).mono fun e w'' he => by cases e <;> exact he⟩
  case row row args => exact ⟨wide_depth,rows_wide h⟩
 | halt x w' => cases x <;> simp only [Oper.upon,Oper.uponIn] at h ⊢ <;> exact h
def noDefer (ops : Array Oper) : Bool:=ops.toList.all fun o => match o.op with | .defer _ => false | _ => true
theorem noDefer_spec {i : Nat} {o : Oper} (h : noDefer ops = true) (hi : ops[i]? = some o) : ∀ c,o.op ≠ .defer c:=by
 intro c hc
 unfold noDefer at h
 rw [List.all_eq_true] at h
 have := h o (Array.mem_toList_iff.2 (Array.mem_of_getElem? hi))
 simp [hc] at this
theorem wpOpIn_of_wpOp {l n i : Nat} {a : Act} {w : World} {K : Act -> World -> Prop} (hd : noDefer ops = true) (hQ : ¬ LetsOut Q) (h : wpOp P ops Q i K a w) : wpOpIn (Fence.wide.inRound l) n P ops Q i K a w:=by
 unfold wpOp at h
 unfold wpOpIn
 cases ho : ops[i]? with
 | none => simpa [ho] using h
 | some o =>
  simp only [ho] at h ⊢
  split
  ·rename_i hw
   rw [if_pos hw] at h
   exact wpIn_round_of_wp (noDefer_spec hd ho) (h.resolve_right fun h' => hQ h'.2)
  ·rename_i hw
   rw [if_neg hw] at h
   exact ⟨fun _ _ => trivial,h⟩
theorem wpAnyIn_of_wpAny {l n : Nat} (hd : noDefer ops = true) (hQ : ¬ LetsOut Q) : ∀ (fuel : Nat) (listed : Array Bool) (a : Act) (w : World),wpAny P md ops Q fuel listed a w -> wpAnyIn (Fence.wide.inRound l) n P md ops Q fuel listed a w
 | 0,_,_,_,h => h
 | fuel + 1,_,_,_,h => ⟨h.1,fun i hi => wpOpIn_mono (fun a' w' h' => wpAnyIn_of_wpAny hd hQ fuel _ a' w' h') (wpOpIn_of_wpOp hd hQ (h.2 i hi))⟩
theorem wpOp_of {i : Nat} {o : Oper} {a : Act} {w : World} {K : Act -> World -> Prop} (ho : ops[i]? = some o) (hw : Region.wanted o (yielded ops a.tmps) = true) (h : o.wp P a w K Q) : wpOp P ops Q i K a w:=by
 unfold wpOp; simp only [ho,hw,if_true]; exact .inl h
def wpAnyD (P : Program) (md : Region.Mode) (ops : Array Oper) (Q : Exit -> Act -> World -> Prop) (S : World -> Prop) (D : List Nat) : Nat -> Array Bool -> Act -> World -> Prop
 | 0,listed,a,w => Region.ready md ops listed = [] /\ Q .normal a w
 | fuel + 1,listed,a,w =>
  (Region.ready md ops listed = [] -> Q .normal a w) ∧
  ∀ i ∈ Region.ready md ops listed,wpOp P ops Q i (fun a' w' => (i ∉ D -> S w') /\ wpAnyD P md ops Q S D fuel (listed.setIfInBounds i true) a' w') a w
variable {S : World -> Prop} {D : List Nat}
theorem wpAny_of_D : ∀ (fuel : Nat) (listed : Array Bool) (a : Act) (w : World),wpAnyD P md ops Q S D fuel listed a w -> wpAny P md ops Q fuel listed a w
 | 0,_,_,_,h => h
 | fuel + 1,_,_,_,h => ⟨h.1,fun i hi => wpOp_mono (fun a' w' h' => wpAny_of_D fuel _ a' w' h'.2) (h.2 i hi)⟩
theorem wpAnyD_first {i : Nat} {oi : Oper} {v : Value} (hi : ops[i]? = some oi) (hsel : ∀ (j : Nat) (o : Oper) cs b,ops[j]? = some o -> o.op ≠ .select cs b)
  (hQ : ∀ c a w,Q (.panic c) (a.put oi.dst v) w -> Q (.panic c) a w)
  (hD : ∀ j oj,ops[j]? = some oj -> j ∈ D -> ∃ e ∈ oj.after,Region.binds md e = true /\ (e.on = i \/ e.on ∈ D)) :
  ∀ (fuel : Nat) (listed : Array Bool) (a : Act) (w : World),
   (∀ j oj,ops[j]? = some oj -> j ≠ i -> listed.getD j true = false -> (∀ e ∈ oj.after,Region.binds md e = true -> e.on ≠ i) -> oi.apart ops oj = true) →
   (∀ j ∈ D,listed.getD j false = false) →
   i ∈ Region.ready md ops listed -> YieldsIf P ops S oi v a -> S w →
   wpAnyD P md ops Q S D fuel (listed.setIfInBounds i true) (a.put oi.dst v) w -> wpAnyD P md ops Q S D (fuel + 1) listed a w:=by
 intro fuel
 induction fuel with
 | zero =>
  intro listed a w _ _ hr hy hS H
  refine ⟨fun h => (by rw [h] at hr; cases hr),fun j hj => ?_⟩
  by_cases hji : j = i
  ·subst hji; exact hy.wpOp hi hS ⟨fun _ => hS,H⟩
  ·have := ready_mono hj hji
   rw [H.1] at this
   cases this
 | succ fuel ih =>
  intro listed a w hfree hinv hr hy hS H
  refine ⟨fun h => (by rw [h] at hr; cases hr),fun j hj => ?_⟩
  by_cases hji : j = i
  ·subst hji; exact hy.wpOp hi hS ⟨fun _ => hS,H⟩
  ·have h1:=H.2 j (ready_mono hj hji)
   obtain ⟨hjun,oj,hoj,hall⟩:=mem_ready.1 hj
   have hlisted : ∀ k,listed.getD k false = true -> listed.getD k true = true:=fun k hk => by
    rcases Nat.lt_or_ge k listed.size with h' | h'
    ·simpa [h'] using hk
    ·simp [Array.getElem?_eq_none h']
   have hnot : ∀ e ∈ oj.after,Region.binds md e = true -> e.on ≠ i:=fun e he hb heq => by
    have h1:=hall e he hb
    have h0:=(mem_ready.1 hr).1
    rw [heq] at h1
    have := hlisted _ h1
    rw [h0] at this; cases this
   have hjD : j ∉ D:=fun hjD => by
    obtain ⟨e,he,hb,h⟩:=hD j oj hoj hjD
    rcases h with h | h
    ·exact hnot e he hb h
    ·have h1:=hall e he hb
     rw [hinv _ h] at h1; cases h1
   have h2:=wpOp_putIf hoj (hfree j oj hoj hji hjun hnot) (fun cs b => hsel i oi cs b hi) (fun cs b => hsel j oj cs b hoj) hQ hy h1
   have hfree' : ∀ k ok,ops[k]? = some ok -> k ≠ i -> (listed.setIfInBounds j true).getD k true = false →
     (∀ e ∈ ok.after,Region.binds md e = true -> e.on ≠ i) -> oi.apart ops ok = true:=fun k ok hk hki hun hno => by
    refine hfree k ok hk hki ?_ hno
    by_cases hjk : j = k
    ·subst hjk; exact hjun
    ·rw [getD_set_ne true hjk] at hun; exact hun
   have hinv' : ∀ k ∈ D,(listed.setIfInBounds j true).getD k false = false:=fun k hk => by
    have hne : j ≠ k:=fun e => hjD (e ▸ hk)
    have := hinv k hk
    rw [Array.getD_eq_getD_getElem?] at this ⊢
    rw [Array.getElem?_setIfInBounds_ne hne]
    exact this
   refine wpOp_mono (fun a' w' h3 => ⟨fun _ => h3.2.1 hjD,ih (listed.setIfInBounds j true) a' w' hfree' hinv' (ready_mono hr (Ne.symm hji)) h3.1 (h3.2.1 hjD) ?_⟩) h2
   rw [Array.setIfInBounds_comm _ _ hji]
   exact h3.2.2
def marksWait (md : Region.Mode) (ops : Array Oper) (D : List Nat) (i : Nat) : Bool :=
 D.all fun j => match ops[j]? with
  | none => true
  | some o => o.after.any fun e => Region.binds md e && (e.on == i || D.contains e.on)
def marksOpen (D : List Nat) (listed : Array Bool) : Bool:=D.all fun j => !listed.getD j false
theorem wpAnyD_take {i : Nat} {oi : Oper} {v : Value} {fuel : Nat} {listed : Array Bool} {a : Act} {w : World} (hi : ops[i]? = some oi)
  (hs : Region.noSelect ops = true) (hf : Region.free md ops listed i = true) (hr : (Region.ready md ops listed).contains i = true) (hm : marksWait md ops D i = true) (ho : marksOpen D listed = true)
  (hQ : ∀ c a w,Q (.panic c) (a.put oi.dst v) w -> Q (.panic c) a w) (hy : YieldsIf P ops S oi v a) (hS : S w)
  (h : wpAnyD P md ops Q S D fuel (listed.setIfInBounds i true) (a.put oi.dst v) w) : wpAnyD P md ops Q S D (fuel + 1) listed a w:=by
 refine wpAnyD_first hi (Region.noSelect_spec hs) hQ ?_ fuel listed a w (Region.free_spec hi hf) ?_ (by simpa using hr) hy hS h
 ·intro j oj hoj hjD
  unfold marksWait at hm
  rw [List.all_eq_true] at hm
  have := hm j hjD
  simp only [hoj,Array.any_eq_true'] at this
  obtain ⟨e,he,hb⟩:=this
  simp only [Bool.and_eq_true,Bool.or_eq_true,beq_iff_eq,List.contains_iff_mem] at hb
  exact ⟨e,he,hb.1,hb.2⟩
 ·intro j hj
  unfold marksOpen at ho
  rw [List.all_eq_true] at ho
  simpa using ho j hj
theorem wpAnyD_one {i : Nat} {o : Oper} {fuel : Nat} {listed : Array Bool} {a : Act} {w : World} (hr : Region.ready md ops listed = [i]) (ho : ops[i]? = some o) (hw : Region.wanted o (yielded ops a.tmps) = true)
  (h : o.wp P a w (fun a' w' => (i ∉ D -> S w') /\ wpAnyD P md ops Q S D fuel (listed.setIfInBounds i true) a' w') Q) : wpAnyD P md ops Q S D (fuel + 1) listed a w :=
 ⟨fun h0 => by rw [hr] at h0; simp at h0,fun j hj => by
  rw [hr] at hj
  obtain rfl : j = i:=by simpa using hj
  exact wpOp_of ho hw h⟩
theorem wpAnyD_done {listed : Array Bool} {a : Act} {w : World} (hr : Region.ready md ops listed = []) (h : Q .normal a w) : ∀ fuel,wpAnyD P md ops Q S D fuel listed a w
 | 0 => ⟨hr,h⟩
 | _ + 1 => ⟨fun _ => h,by rw [hr]; simp⟩
theorem region_round {l n id : Nat} {a : Act} {w : World} (S : World -> Prop) (D : List Nat) (hm : P.follows .mixedOrders = true) (hd : noDefer ops = true) (hQ : ¬ LetsOut Q)
  (h : wpAnyD P .any ops Q S D ops.size (Array.replicate ops.size false) a w.drew) : (Code.region id ops true).wpIn (Fence.wide.inRound l) n P Q a w :=
 wpIn_region_any hm (wpAnyIn_of_wpAny hd hQ _ _ _ _ (wpAny_of_D _ _ _ _ h))
theorem region_plain {id : Nat} {a : Act} {w : World} (S : World -> Prop) (D : List Nat) (hm : P.follows .mixedOrders = true)
  (h : wpAnyD P .any ops Q S D ops.size (Array.replicate ops.size false) a w.drew) : (Code.region id ops true).wp P Q a w :=
 wp_region_any hm (wpAny_of_D _ _ _ _ h)
end
section
variable {P : Program} {ops : Array Oper} {Q : Exit -> Act -> World -> Prop} {md : Region.Mode} {S : World -> Prop} {D : List Nat}
theorem wpAnyD_tk {i : Nat} {oi : Oper} {v : Value} {fuel : Nat} {listed : Array Bool} {a : Act} {w : World} (hi : ops[i]? = some oi) (hy : YieldsIf P ops S oi v a) (hS : S w)
  (h : wpAnyD P md ops Q S D fuel (listed.setIfInBounds i true) (a.put oi.dst v) w) (hs : Region.noSelect ops = true:=by kernel_rfl) (hf : Region.free md ops listed i = true:=by kernel_rfl) (hr : (Region.ready md ops listed).contains i = true:=by kernel_rfl) (hm : marksWait md ops D i = true:=by kernel_rfl) (ho : marksOpen D listed = true:=by kernel_rfl) (hQ : ∀ c a w,Q (.panic c) (a.put oi.dst v) w -> Q (.panic c) a w:=by exact fun _ _ _ h => h) : wpAnyD P md ops Q S D (fuel + 1) listed a w:=wpAnyD_take hi hs hf hr hm ho hQ hy hS h
theorem wpAnyD_tp {i : Nat} {oi : Oper} {v : Value} {fuel : Nat} {listed : Array Bool} {a : Act} {w : World} (hi : ops[i]? = some oi) (hS : S w)
  (h : wpAnyD P md ops Q S D fuel (listed.setIfInBounds i true) (a.put oi.dst v) w) (hs : Region.noSelect ops = true:=by kernel_rfl) (hf : Region.free md ops listed i = true:=by kernel_rfl) (hr : (Region.ready md ops listed).contains i = true:=by kernel_rfl) (hm : marksWait md ops D i = true:=by kernel_rfl) (ho : marksOpen D listed = true:=by kernel_rfl) (hy : YieldsIf P ops S oi v a:=by exact .inl ⟨by kernel_rfl,fun W' hS => by go_simp⟩) (hQ : ∀ c a w,Q (.panic c) (a.put oi.dst v) w -> Q (.panic c) a w:=by exact fun _ _ _ h => h) : wpAnyD P md ops Q S D (fuel + 1) listed a w:=wpAnyD_take hi hs hf hr hm ho hQ hy hS h
end
end Go.Proofs.YtlidpghnlloinaaGreatDoor
