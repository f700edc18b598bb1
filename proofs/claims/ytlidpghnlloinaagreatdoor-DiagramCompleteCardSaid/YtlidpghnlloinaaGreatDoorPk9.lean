/- Contracts and plain laws, several texts in one (GPos, GCells, GCell, GSmp, GHold1, GHoldS). No conditions beyond those stated. -/
import Derived.Test.YtlidpghnlloinaaGreatDoorPk8
set_option maxRecDepth 100000
set_option maxHeartbeats 40000000
namespace Go.Proofs.YtlidpghnlloinaaGreatDoor
open Go.RowKit
set_option linter.unusedVariables false
def cntN (kd : Int) (n : Nat) : Nat:=if kd = 0 then 2 else 2 * n + 1
theorem gcount_any (sb so n cm : Nat) (a : Option Addr) (kd : Int) (w : World) (c9 : w.cell? ⟨sb,so + 9,none⟩ = some (.int .u8 kd)) (c10 : w.cell? ⟨sb,so + 10,none⟩ = some (.slice a n cm)) (hn : n <= 2 ^ 38) :
  Calls Tryz.prog 77 #[.pointer (some ⟨sb,so,none⟩)] w fun e w' => e = .returned (.int .i64 (cntN kd n)) /\ Below w.heap.size w w':=by
 by_cases h0 : kd = 0
 ·subst h0
  go_enter Tryz.func77,Tryz.ntmps77
  go_wp2_with fail
  go_ret
  exact ⟨rfl,Below.refl _ _⟩
 ·have e0 : (kd == 0) = false:=by simpa using h0
  have hw1 : IntKind.i64.wrap (2 * (n : Int)) = 2 * (n : Int):=IntWalk.i64_in _ (by omega)
  have hw2 : IntKind.i64.wrap (2 * (n : Int) + 1) = 2 * (n : Int) + 1:=IntWalk.i64_in _ (by omega)
  have hc : ((cntN kd n : Nat) : Int) = 2 * (n : Int) + 1:=by unfold cntN; rw [if_neg h0]; omega
  rw [hc]
  clear hc h0
  go_enter Tryz.func77,Tryz.ntmps77
  go_wp2_with fail
  go_ret
  exact ⟨rfl,Below.refl _ _⟩
def isDay (kd : Int) : Bool:=kd == 4 || kd == 5 || kd == 6
def loS (kd : Int) (l : List Vq) (c : Nat) : Int:=if 0 < c then (l[c / 2 - 1]?.getD v0).i else if kd = 4 then -1 else -1048577
def hiS (kd : Int) (l : List Vq) (c : Nat) : Int:=if c / 2 < l.length then (l[c / 2]?.getD v0).i else if kd = 4 then 65536 else 1048577
def possN (kd : Int) (l : List Vq) (c : Nat) : Bool:=!isDay kd || c % 2 == 1 || decide (1 < hiS kd l c - loS kd l c)
def Sc.poss (s : Sc) (c : Int) : Bool:=decide (0 <= c) && decide (c < cntN s.kd s.cuts.length) && possN s.kd s.cuts c.toNat
theorem isDay_not {kd : Int} (h : isDay kd = false) : (kd == 4) = false /\ (kd == 5) = false /\ (kd == 6) = false:=by
 unfold isDay at h; simp only [Bool.or_eq_false_iff] at h; exact ⟨h.1.1,h.1.2,h.2⟩
theorem day_bound {v : Vq} (h : v.ok = true) (hk : isDay v.kd = true) : -1048576 <= v.i /\ v.i <= 1048576:=by
 unfold isDay at hk
 simp only [Bool.or_eq_true,beq_iff_eq] at hk
 unfold Vq.ok Vq.fr at h
 rcases hk with (hk | hk) | hk <;> rw [hk] at h <;> simp at h <;> omega
theorem gposs_neg (sb so : Nat) (c : Int) (w : World) (hc : c < 0) :
  Calls Tryz.prog 78 #[.pointer (some ⟨sb,so,none⟩),.int .i64 c] w fun e w' => e = .returned (.bool false) /\ Below w.heap.size w w':=by
 have e0 : decide (c < 0) = true:=by simpa using hc
 clear hc
 go_enter Tryz.func78,Tryz.ntmps78
 go_wp2_with fail
 go_ret
 exact ⟨rfl,Below.refl _ _⟩
theorem gposs_big (sb so n cm : Nat) (a : Option Addr) (kd c : Int) (w : World) (hc0 : 0 <= c) (hc : (cntN kd n : Int) <= c) (c9 : w.cell? ⟨sb,so + 9,none⟩ = some (.int .u8 kd)) (c10 : w.cell? ⟨sb,so + 10,none⟩ = some (.slice a n cm)) (hn : n <= 2 ^ 38) :
  Calls Tryz.prog 78 #[.pointer (some ⟨sb,so,none⟩),.int .i64 c] w fun e w' => e = .returned (.bool false) /\ Below w.heap.size w w':=by
 have e0 : decide (c < 0) = false:=by simp; omega
 have hcall:=gcount_any sb so n cm a kd w c9 c10 hn
 obtain ⟨m,hm⟩ : ∃ m,((cntN kd n : Nat) : Int) = m:=⟨_,rfl⟩
 rw [hm] at hcall hc
 have e1 : decide (m <= c) = true:=by simpa using hc
 clear hc0 hc hm c9 c10
 go_enter Tryz.func78,Tryz.ntmps78
 go_wp2_with fail
 refine hcall.mono ?_
 rintro e w2 ⟨rfl,hb2⟩
 go_wp2_with fail
 go_ret
 exact ⟨rfl,hb2⟩
theorem gposs_other (sb so n cm : Nat) (a : Option Addr) (kd c : Int) (w : World) (hc0 : 0 <= c) (hc : c < cntN kd n) (hsb : sb < w.heap.size) (c9 : w.cell? ⟨sb,so + 9,none⟩ = some (.int .u8 kd)) (c10 : w.cell? ⟨sb,so + 10,none⟩ = some (.slice a n cm)) (hn : n <= 2 ^ 38) (hk : isDay kd = false) :
  Calls Tryz.prog 78 #[.pointer (some ⟨sb,so,none⟩),.int .i64 c] w fun e w' => e = .returned (.bool true) /\ Below w.heap.size w w':=by
 have e0 : decide (c < 0) = false:=by simp; omega
 obtain ⟨k4,k5,k6⟩:=isDay_not hk
 have hcall:=gcount_any sb so n cm a kd w c9 c10 hn
 obtain ⟨m,hm⟩ : ∃ m,((cntN kd n : Nat) : Int) = m:=⟨_,rfl⟩
 rw [hm] at hcall hc
 have e1 : decide (m <= c) = false:=by simp; omega
 have H9:=Lib.hid c9
 clear hc0 hc hm c9 c10 hk
 go_enter Tryz.func78,Tryz.ntmps78
 go_wp2_with fail
 refine hcall.mono ?_
 rintro e w2 ⟨rfl,hb2⟩
 have c9 : w2.cell? ⟨sb,so + 9,none⟩ = some (.int .u8 kd):=(hb2.cell (p:=⟨sb,so + 9,none⟩) hsb).trans H9.out
 go_wp2_with fail
 go_ret
 exact ⟨rfl,hb2⟩
theorem gposs_odd (sb so n cm m : Nat) (a : Option Addr) (kd : Int) (w : World) (hc : 2 * m + 1 < cntN kd n) (hsb : sb < w.heap.size) (c9 : w.cell? ⟨sb,so + 9,none⟩ = some (.int .u8 kd)) (c10 : w.cell? ⟨sb,so + 10,none⟩ = some (.slice a n cm)) (hn : n <= 2 ^ 38) (hk : isDay kd = true) :
  Calls Tryz.prog 78 #[.pointer (some ⟨sb,so,none⟩),.int .i64 ((2 * m + 1 : Nat) : Int)] w fun e w' => e = .returned (.bool true) /\ Below w.heap.size w w':=by
 have hcall:=gcount_any sb so n cm a kd w c9 c10 hn
 obtain ⟨c,hce⟩ : ∃ c,2 * m + 1 = c:=⟨_,rfl⟩
 have hb : cntN kd n <= 2 ^ 39 + 1:=by unfold cntN; split <;> omega
 have hmod : Int.tmod (c : Int) 2 = 1:=by rw [Int.tmod_eq_emod_of_nonneg (by omega)]; omega
 rw [hce] at hc ⊢
 obtain ⟨q,hm⟩ : ∃ q,cntN kd n = q:=⟨_,rfl⟩
 rw [hm] at hcall hc hb
 have e1 : decide ((q : Int) <= c) = false:=by simp; omega
 have e0 : decide ((c : Int) < 0) = false:=by simp
 have H9:=Lib.hid c9
 clear hm c9 c10 hce
 unfold isDay at hk
 simp only [Bool.or_eq_true,beq_iff_eq] at hk
 rcases hk with (rfl | rfl) | rfl
 all_goals
  go_enter Tryz.func78,Tryz.ntmps78
  go_wp2_with fail
  refine hcall.mono ?_
  rintro e w2 ⟨rfl,hb2⟩
  have c9:=(hb2.cell (p:=⟨sb,so + 9,none⟩) hsb).trans H9.out
  go_wp2_with fail
  go_ret
  exact ⟨rfl,hb2⟩
theorem gposs_even (K sb so m : Nat) (cv : Value) (l : List Vq) (kd : Int) (w : World) (hl : CutsX K w cv l) (hK : K <= w.heap.size) (hm : m <= l.length) (hsb : sb < w.heap.size) (c9 : w.cell? ⟨sb,so + 9,none⟩ = some (.int .u8 kd)) (c10 : w.cell? ⟨sb,so + 10,none⟩ = some cv) (hn : l.length <= 2 ^ 38) (hk : isDay kd = true)
  (hb : ∀ c ∈ l,-1048576 <= c.i /\ c.i <= 1048576) :
  Calls Tryz.prog 78 #[.pointer (some ⟨sb,so,none⟩),.int .i64 ((2 * m : Nat) : Int)] w fun e w' => e = .returned (.bool (decide (1 < hiS kd l (2 * m) - loS kd l (2 * m)))) /\ Below w.heap.size w w':=by
 obtain ⟨g,hg,hgi⟩:=hl
 obtain ⟨va,vcap,rfl,hv1,hv2⟩:=id hg.form
 unfold maxLen at hv2
 have hcall:=gcount_any sb so l.length vcap va kd w c9 c10 hn
 have hkd0 : kd ≠ 0:=by rintro rfl; revert hk; decide
 have hct : cntN kd l.length = 2 * l.length + 1:=by unfold cntN; rw [if_neg hkd0]
 rw [hct] at hcall
 obtain ⟨n,hnl⟩ : ∃ n,l.length = n:=⟨_,rfl⟩
 obtain ⟨H,hH⟩ : ∃ H,hiS kd l (2 * m) = H:=⟨_,rfl⟩
 obtain ⟨L,hL⟩ : ∃ L,loS kd l (2 * m) = L:=⟨_,rfl⟩
 have hbi : ∀ i,i < n -> -1048576 <= (l[i]?.getD v0).i /\ (l[i]?.getD v0).i <= 1048576:=fun i hi => by
  rw [List.getElem?_eq_getElem (by omega)]; exact hb _ (List.getElem_mem (by omega))
 have hlo : L = if 0 < m then (l[m - 1]?.getD v0).i else if kd = 4 then -1 else -1048577:=by
  rw [<- hL]; unfold loS
  rw [show 2 * m / 2 = m by omega]
  by_cases h : 0 < m
  ·rw [if_pos (by omega),if_pos h]
  ·rw [if_neg (by omega),if_neg h]
 have hhi : H = if m < n then (l[m]?.getD v0).i else if kd = 4 then 65536 else 1048577:=by
  rw [<- hH]; unfold hiS
  rw [show 2 * m / 2 = m by omega,hnl]
 have hLb : -1048577 <= L /\ L <= 1048576:=by
  rw [hlo]; split
  ·have := hbi (m - 1) (by omega); omega
  ·split <;> omega
 have hHb : -1048576 <= H /\ H <= 1048577:=by
  rw [hhi]; split
  ·have := hbi m (by omega); omega
  ·split <;> omega
 have hw : IntKind.i64.wrap (H - L) = H - L:=IntWalk.i64_in _ (by omega)
 rw [hH,hL]
 have hmod : Int.tmod ((2 * m : Nat) : Int) 2 = 0:=by rw [Int.tmod_eq_emod_of_nonneg (by omega)]; omega
 have hdiv : Int.tdiv ((2 * m : Nat) : Int) 2 = m:=by rw [Int.tdiv_eq_ediv_of_nonneg (by omega)]; omega
 rw [hnl] at hcall hn hm hv1 hg hgi
 have hcl : ∀ i,i < n -> ∃ cb co,va = some ⟨cb,co,none⟩ /\ cb < w.heap.size /\ w.cell? ⟨cb,co + i * 6 + 5,none⟩ = some (.int .i64 (l[i]?.getD v0).i):=fun i hi => by
  obtain ⟨cb,co,cap,he,_,_,hbK,hc⟩:=hg.pos (by omega)
  simp only [Value.slice.injEq] at he
  exact ⟨cb,co,he.1,by omega,by rw [(val_cells hc hi).2.2.2.2.2,(hgi i hi).i]⟩
 have hwm : IntKind.i64.wrap ((m : Int) - 1) = (m : Int) - 1:=IntWalk.i64_in _ (by omega)
 have HC10:=Lib.hid (show w.cell? ⟨sb,so + 10,none⟩ = some (.slice va n vcap) by rw [<- hnl]; exact c10)
 have H9:=Lib.hid c9
 have HLO:=Lib.hid hlo
 have HHI:=Lib.hid hhi
 have HCL:=Lib.hid hcl
 obtain ⟨c,hce⟩ : ∃ c,2 * m = c:=⟨_,rfl⟩
 rw [hce] at hmod hdiv ⊢
 have e1 : decide ((2 * (n : Int) + 1) <= c) = false:=by simp; omega
 have e0 : decide ((c : Int) < 0) = false:=by simp
 have ec : (0 < m) = (0 < (c : Int)):=by apply propext; omega
 have HEC:=Lib.hid ec
 have HCE:=Lib.hid hce
 clear hg hgi c9 c10 hlo hhi hcl hb hbi hkd0 hct hH hL hce ec
 unfold isDay at hk
 simp only [Bool.or_eq_true,beq_iff_eq] at hk
 cases m with
 | zero =>
  have hc0 : c = 0:=by have := HCE.out; omega
  subst hc0
  have hL:=HLO.out
  rw [if_neg (Nat.lt_irrefl 0)] at hL
  by_cases hmn : 0 < n
  ·obtain ⟨cb,co,rfl,hcb,hc5⟩:=HCL.out 0 hmn
   have hH:=HHI.out
   rw [if_pos hmn] at hH
   rw [<- hH,Nat.zero_mul,Nat.add_zero] at hc5
   have H5:=Lib.hid hc5
   clear hc5 hH
   rcases hk with (rfl | rfl) | rfl
   all_goals
    subst hL
    go_enter Tryz.func78,Tryz.ntmps78
    go_wp2_with fail
    refine hcall.mono ?_
    rintro e w2 ⟨rfl,hb2⟩
    have c9:=(hb2.cell (p:=⟨sb,so + 9,none⟩) hsb).trans H9.out
    have c10:=(hb2.cell (p:=⟨sb,so + 10,none⟩) hsb).trans HC10.out
    have c5:=(hb2.cell (p:=⟨cb,co + 5,none⟩) hcb).trans H5.out
    go_wp2_with fail
    go_ret
    exact ⟨rfl,hb2⟩
  ·have hH:=HHI.out
   rw [if_neg hmn] at hH
   obtain rfl : n = 0:=by omega
   rcases hk with (rfl | rfl) | rfl
   all_goals
    subst hL hH
    go_enter Tryz.func78,Tryz.ntmps78
    go_wp2_with fail
    refine hcall.mono ?_
    rintro e w2 ⟨rfl,hb2⟩
    have c9:=(hb2.cell (p:=⟨sb,so + 9,none⟩) hsb).trans H9.out
    have c10:=(hb2.cell (p:=⟨sb,so + 10,none⟩) hsb).trans HC10.out
    go_wp2_with fail
    go_ret
    exact ⟨rfl,hb2⟩
 | succ m =>
  have hL:=HLO.out
  rw [if_pos (Nat.succ_pos m),Nat.add_sub_cancel] at hL
  obtain ⟨cb,co,rfl,hcb,hc5⟩:=HCL.out m (by omega)
  rw [<- hL] at hc5
  have H5:=Lib.hid hc5
  have hw1 : IntKind.i64.wrap (m : Int) = (m : Int):=IntWalk.i64_in _ (by omega)
  have hkn : ¬ n <= m:=by omega
  have e2 : decide (0 < (c : Int)) = true:=by have := HCE.out; simp; omega
  have hc0 : 0 < c:=by have := HCE.out; omega
  clear hc5 hL hwm
  by_cases hmn : m + 1 < n
  ·obtain ⟨cb',co',he,_,hc6⟩:=HCL.out (m + 1) hmn
   simp only [Option.some.injEq,Addr.mk.injEq,and_true] at he
   obtain ⟨rfl,rfl⟩:=he
   have hH:=HHI.out
   rw [if_pos hmn] at hH
   rw [<- hH] at hc6
   have H6:=Lib.hid hc6
   clear hc6 hH
   have hkn2 : ¬ n <= m + 1:=by omega
   have e3 : decide (((m : Int) + 1) < n) = true:=by simp; omega
   rcases hk with (rfl | rfl) | rfl
   all_goals
    go_enter Tryz.func78,Tryz.ntmps78
    go_wp2_with fail
    refine hcall.mono ?_
    rintro e w2 ⟨rfl,hb2⟩
    have c9:=(hb2.cell (p:=⟨sb,so + 9,none⟩) hsb).trans H9.out
    have c10:=(hb2.cell (p:=⟨sb,so + 10,none⟩) hsb).trans HC10.out
    have c5:=(hb2.cell (p:=⟨cb,co + m * 6 + 5,none⟩) hcb).trans H5.out
    have c6:=(hb2.cell (p:=⟨cb,co + (m + 1) * 6 + 5,none⟩) hcb).trans H6.out
    go_wp2_with fail
    go_ret
    exact ⟨rfl,hb2⟩
  ·have hH:=HHI.out
   rw [if_neg hmn] at hH
   have e3 : decide (((m : Int) + 1) < n) = false:=by simp; omega
   rcases hk with (rfl | rfl) | rfl
   all_goals
    subst hH
    go_enter Tryz.func78,Tryz.ntmps78
    go_wp2_with fail
    refine hcall.mono ?_
    rintro e w2 ⟨rfl,hb2⟩
    have c9:=(hb2.cell (p:=⟨sb,so + 9,none⟩) hsb).trans H9.out
    have c10:=(hb2.cell (p:=⟨sb,so + 10,none⟩) hsb).trans HC10.out
    have c5:=(hb2.cell (p:=⟨cb,co + m * 6 + 5,none⟩) hcb).trans H5.out
    go_wp2_with fail
    go_ret
    exact ⟨rfl,hb2⟩
theorem gposs_any (K sb so : Nat) (cv : Value) (s : Sc) (c : Int) (w : World) (hl : CutsX K w cv s.cuts) (hK : K <= w.heap.size) (hsb : sb < w.heap.size) (c9 : w.cell? ⟨sb,so + 9,none⟩ = some (.int .u8 s.kd)) (c10 : w.cell? ⟨sb,so + 10,none⟩ = some cv) (hn : s.cuts.length <= 2 ^ 38)
  (hok : ∀ v ∈ s.cuts,v.ok = true /\ v.kd = s.kd) : Calls Tryz.prog 78 #[.pointer (some ⟨sb,so,none⟩),.int .i64 c] w fun e w' => e = .returned (.bool (s.poss c)) /\ Below w.heap.size w w':=by
 obtain ⟨va,vcap,hv,_,_⟩:=hl.form
 by_cases h0 : c < 0
 ·rw [show s.poss c = false by unfold Sc.poss; rw [show decide (0 <= c) = false by simp; omega]; simp]
  exact gposs_neg sb so c w h0
 by_cases h1 : (cntN s.kd s.cuts.length : Int) <= c
 ·rw [show s.poss c = false by unfold Sc.poss; rw [show decide (c < (cntN s.kd s.cuts.length : Int)) = false by simp; omega]; simp]
  exact gposs_big sb so s.cuts.length vcap va s.kd c w (by omega) h1 c9 (by rw [<- hv]; exact c10) hn
 have hp : s.poss c = possN s.kd s.cuts c.toNat:=by
  unfold Sc.poss
  rw [show decide (0 <= c) = true by simp; omega,show decide (c < (cntN s.kd s.cuts.length : Int)) = true by simp; omega]
  simp
 rw [hp]
 cases hk : isDay s.kd with
 | false =>
  rw [show possN s.kd s.cuts c.toNat = true by unfold possN; rw [hk]; rfl]
  exact gposs_other sb so s.cuts.length vcap va s.kd c w (by omega) (by omega) hsb c9 (by rw [<- hv]; exact c10) hn hk
 | true =>
  obtain ⟨k,rfl⟩ : ∃ k : Nat,c = k:=⟨c.toNat,by omega⟩
  rw [Int.toNat_natCast]
  rcases Nat.mod_two_eq_zero_or_one k with h2 | h2
  ·obtain ⟨m,rfl⟩ : ∃ m,k = 2 * m:=⟨k / 2,by omega⟩
   rw [show possN s.kd s.cuts (2 * m) = decide (1 < hiS s.kd s.cuts (2 * m) - loS s.kd s.cuts (2 * m)) by unfold possN; rw [hk,h2]; simp]
   have hkd0 : s.kd ≠ 0:=by intro e; rw [e] at hk; revert hk; decide
   have : cntN s.kd s.cuts.length = 2 * s.cuts.length + 1:=by unfold cntN; rw [if_neg hkd0]
   exact gposs_even K sb so m cv s.cuts s.kd w hl hK (by omega) hsb c9 c10 hn hk (fun v hv => day_bound (hok v hv).1 (by rw [(hok v hv).2]; exact hk))
  ·obtain ⟨m,rfl⟩ : ∃ m,k = 2 * m + 1:=⟨k / 2,by omega⟩
   rw [show possN s.kd s.cuts (2 * m + 1) = true by unfold possN; rw [h2]; simp]
   exact gposs_odd sb so s.cuts.length vcap m va s.kd w (by omega) hsb c9 (by rw [<- hv]; exact c10) hn hk
theorem okB_cuts {s : Sc} (h : s.okB = true) : ∀ v ∈ s.cuts,v.ok = true /\ v.kd = s.kd:=by
 intro v hv
 unfold Sc.okB at h
 split at h
 ·rw [beq_iff_eq] at h
  rw [List.length_eq_zero_iff.1 h] at hv
  cases hv
 ·simp only [Bool.and_eq_true,List.all_eq_true,List.mem_range] at h
  obtain ⟨j,hj,rfl⟩:=List.mem_iff_getElem.1 hv
  have := h.2 j hj
  unfold cutB at this
  rw [List.getElem?_eq_getElem hj,Option.getD_some] at this
  simp only [Bool.and_eq_true,beq_iff_eq] at this
  exact ⟨this.1.2,this.1.1⟩
def possL (s : Sc) (k : Nat) : List Nat:=(List.range k).filter fun c => s.poss c
def cellsS (s : Sc) : List Nat:=if s.okB = true then possL s (cntN s.kd s.cuts.length) else []
theorem possL_succ (s : Sc) (k : Nat) : possL s (k + 1) = if s.poss k = true then possL s k ++ [k] else possL s k:=by
 unfold possL
 rw [List.range_succ,List.filter_append]
 simp only [List.filter_cons,List.filter_nil]
 split
 ·rfl
 ·simp
theorem possL_len (s : Sc) (k : Nat) : (possL s k).length <= k:=by
 unfold possL
 have := List.length_filter_le (fun c : Nat => s.poss c) (List.range k)
 rw [List.length_range] at this
 exact this
theorem okB_len {s : Sc} (h : s.okB = true) : s.cuts.length <= 32:=by
 unfold Sc.okB at h
 split at h
 ·rw [beq_iff_eq] at h; omega
 ·simp only [Bool.and_eq_true,decide_eq_true_eq] at h; omega
theorem gcells_any (K : Nat) (s : Sc) (y : Sv) (w : World) (hs : ScX K w s y) (hK : K <= w.heap.size) (hgo : ∀ c ∈ s.cuts,c.good = true) (hbig : s.cuts.length <= 2 ^ 38) :
  Calls Tryz.prog 35 #[y.agg] w fun e w' => ∃ v,e = .returned v /\ OwnN w.heap.size w' v (cellsS s) /\ Below w.heap.size w w':=by
 obtain ⟨W1,hW1⟩ : ∃ W1,w.alloc (.cells y.cells 79) = W1:=⟨_,rfl⟩
 have b1 : Below w.heap.size w W1:=by rw [<- hW1]; exact (Below.refl _ _).alloc (Nat.le_refl _) _
 have q1 : Blk W1 w.heap.size y.cells 79:=by rw [<- hW1]; exact Blk.new w _ _
 have s1 : W1.heap.size = w.heap.size + 1:=by rw [<- hW1]; simp
 obtain ⟨B,hB⟩ : ∃ B,w.heap.size = B:=⟨_,rfl⟩
 have HB:=Lib.hid hB
 have HW:=Lib.hid hW1
 rw [hB] at hK b1 q1 s1 ⊢
 have hv:=gvalid_any B s y W1 (hs.below b1 hK hK) (by omega) hgo hbig
 have hcuts:=hs.cuts.below b1 hK hK
 have hkd:=hs.kd
 clear hB hW1 hs hgo
 obtain ⟨va,vcap,hve,_,_⟩:=id hcuts.form
 obtain ⟨⟨yop,ynm,yk,yb3,⟨y4,y4n,y4m⟩,yb5,⟨y6,y6n,y6m⟩,yi7,⟨y8,y8n,y8m⟩⟩,sk,⟨ca,cn,cm⟩⟩:=y
 dsimp only [Sl.val] at hve hkd hcuts
 simp only [Value.slice.injEq] at hve
 obtain ⟨rfl,rfl,rfl⟩:=hve
 subst hkd
 obtain ⟨n,hnl⟩ : ∃ n,s.cuts.length = n:=⟨_,rfl⟩
 rw [hnl] at hv hcuts q1 HW hbig ⊢
 have HN:=Lib.hid hnl
 obtain ⟨kd,hkd⟩ : ∃ kd,s.kd = kd:=⟨_,rfl⟩
 rw [hkd] at hv q1 HW ⊢
 have HKD:=Lib.hid hkd
 have HQ1:=Lib.hid q1
 have HCU:=Lib.hid hcuts
 clear hcuts hnl hkd
 obtain ⟨r,hr⟩ : ∃ r,s.okB = r:=⟨_,rfl⟩
 rw [hr] at hv
 have HR:=Lib.hid hr
 clear hr
 obtain ⟨d0,d1,d2,d3,d4,d5,d6,d7,d8,d9,d10⟩:=q1.eleven
 clear q1
 cases r with
 | false =>
  have hcs : cellsS s = []:=by unfold cellsS; rw [HR.out]; rfl
  rw [hcs]
  go_enter Tryz.func35,Tryz.ntmps35
  go_upto_region 1 with fail
  simp only [HB.out]
  rw [HW.out]
  go_wp2_with fail
  refine hv.mono ?_
  rintro e w2 ⟨rfl,hb2⟩
  go_wp2_with fail
  go_ret
  exact ⟨_,rfl,OwnN.nil _ _,b1.trans (hb2.mono (by omega))⟩
 | true =>
  have hn32 : n <= 32:=by rw [<- HN.out]; exact okB_len HR.out
  obtain ⟨q,hq⟩ : ∃ q,cntN kd n = q:=⟨_,rfl⟩
  have hq65 : q <= 65:=by rw [<- hq]; unfold cntN; split <;> omega
  have hcs : cellsS s = possL s q:=by unfold cellsS; rw [HR.out,if_pos rfl,HKD.out,HN.out,hq]
  rw [hcs]
  have HQ:=Lib.hid hq
  clear hq hcs
  go_enter Tryz.func35,Tryz.ntmps35
  go_upto_region 1 with fail
  simp only [HB.out]
  rw [HW.out]
  go_wp2_with fail
  refine hv.mono ?_
  rintro e w2 ⟨rfl,hb2⟩
  clear d0 d1 d2 d3 d4 d5 d6 d7 d8 d9 d10 hv
  have qB2:=HQ1.out.below hb2 (by omega)
  have hcnt:=gcount_any B 0 n cm ca kd w2 (qB2.at rfl) (qB2.at rfl) hbig
  rw [HQ.out] at hcnt
  clear qB2
  go_wp2_with fail
  refine hcnt.mono ?_
  rintro e w3 ⟨rfl,hb3⟩
  clear hcnt
  have hb13 : Below W1.heap.size W1 w3:=hb2.trans (hb3.mono hb2.size)
  clear hb2 hb3
  go_wp2_with fail
  go_loopw [9,3] (fun i lv wr => ∃ k : Nat,k <= q /\ i = .int .i64 k /\ Below W1.heap.size W1 wr /\ OwnN (B + 1) wr lv (possL s k)) (fun i lv _ => q - (intOf i).toNat)
  case atStart => exact ⟨0,Nat.zero_le _,rfl,hb13,OwnN.nil _ _⟩
  case round =>
   obtain ⟨k,hk,rfl,hbr,hown⟩:=hrel
   have hsr:=hbr.size
   by_cases hlt : k < q
   ·have qB:=HQ1.out.below hbr (by omega)
    have hpos:=gposs_any B B 0 (.slice ca n cm) s k wr (HCU.out.below hbr (by omega) (Nat.le_refl _)) (by omega) qB.lt (by rw [HKD.out]; exact qB.at rfl) (qB.at rfl) (by rw [HN.out]; exact hbig) (okB_cuts HR.out)
    obtain ⟨rp,hrp⟩ : ∃ rp,s.poss k = rp:=⟨_,rfl⟩
    rw [hrp] at hpos
    have HRP:=Lib.hid hrp
    clear hrp qB
    have HOWN:=Lib.hid hown
    obtain ⟨la,lc,rfl,_,_⟩:=hown.form
    clear hown
    go_wp2_with fail
    refine hpos.mono ?_
    rintro e w4 ⟨rfl,hb4⟩
    clear hpos
    have hb5 : Below W1.heap.size W1 w4:=hbr.trans (hb4.mono hsr)
    have hown4:=HOWN.out.old hb4 (Nat.le_refl _)
    have hsucc:=possL_succ s k
    rw [HRP.out] at hsucc
    have HSU:=Lib.hid hsucc
    have hlen:=possL_len s k
    have hs5:=hb5.size
    clear hsucc
    cases rp with
    | false =>
     go_wp2_with fail
     exact ⟨⟨k + 1,by omega,by simp,hb5,by rw [HSU.out]; exact hown4⟩,by simp [intOf]; omega⟩
    | true =>
     go_wp2_with (at_builtin; refine wpList_append_N rfl (.tmp 14) (.tmp 16) rfl rfl rfl (hown4.old ((Below.refl _ _).alloc (Nat.le_refl _) _) (Nat.le_refl _)) ((Blk.new w4 #[Z k] _).at rfl) (by omega) (by simp; omega) ?_; intro g1 cap1 w6 hown6 hg6 hat6)
     have hb6 : Below W1.heap.size W1 w6:=(hb5.alloc hs5 (.cells #[Z k] 3)).trans (below_grown hg6 (fun r e => by have := (ownsRow_cells hown4 e).1; omega) (by simp; omega))
     exact ⟨⟨k + 1,by omega,by simp,hb6,by rw [HSU.out]; exact hown6⟩,by simp [intOf]; omega⟩
   ·obtain rfl : k = q:=by omega
    go_wp2_with fail
    go_ret
    exact ⟨_,rfl,hown.mono (by omega),b1.trans (hbr.mono (by omega))⟩
theorem vlt_tr {a b c : Vq} (ha : a.ok = true) (hb : b.ok = true) (hc : c.ok = true) (h1 : vlt a b) (h2 : vlt b c) : vlt a c:=by
 unfold vlt at *
 have pa:=vbot_pos ha
 have pb:=vbot_pos hb
 have pc:=vbot_pos hc
 have e1:=Int.mul_lt_mul_of_pos_right h1 pc
 have e2:=Int.mul_lt_mul_of_pos_right h2 pa
 refine Int.lt_of_mul_lt_mul_right (a:=b.bot) ?_ (Int.le_of_lt pb)
 calc a.top * c.bot * b.bot = a.top * b.bot * c.bot:=by rw [Int.mul_assoc,Int.mul_comm c.bot,<- Int.mul_assoc]
  _ < b.top * a.bot * c.bot:=e1
  _ = b.top * c.bot * a.bot:=by rw [Int.mul_assoc,Int.mul_comm a.bot,<- Int.mul_assoc]
  _ < c.top * b.bot * a.bot:=e2
  _ = c.top * a.bot * b.bot:=by rw [Int.mul_assoc,Int.mul_comm b.bot,<- Int.mul_assoc]
theorem okB_cutsOk {s : Sc} (h : s.okB = true) (hg : ∀ v ∈ s.cuts,v.good = true) : CutsOk s.kd s.cuts:=by
 refine ⟨hg,fun c hc => (okB_cuts h c hc).1,fun c hc => (okB_cuts h c hc).2,?_⟩
 have hadj : ∀ i,i + 1 < s.cuts.length -> vlt (s.cuts[i]?.getD v0) (s.cuts[i + 1]?.getD v0):=by
  intro i hi
  unfold Sc.okB at h
  split at h
  ·rw [beq_iff_eq] at h; omega
  ·simp only [Bool.and_eq_true,List.all_eq_true,List.mem_range] at h
   have := h.2 (i + 1) hi
   unfold cutB at this
   simp only [Bool.and_eq_true,Bool.or_eq_true,beq_iff_eq,Nat.add_one_ne_zero,false_or,Nat.add_sub_cancel,Bool.not_eq_true'] at this
   have h9:=this.2
   unfold vle at h9
   rw [decide_eq_false_iff_not] at h9
   unfold vlt
   omega
 have hok : ∀ i,i < s.cuts.length -> (s.cuts[i]?.getD v0).ok = true:=fun i hi => by
  rw [List.getElem?_eq_getElem hi]; exact (okB_cuts h _ (List.getElem_mem hi)).1
 have key : ∀ d i,i + d + 1 < s.cuts.length -> vlt (s.cuts[i]?.getD v0) (s.cuts[i + d + 1]?.getD v0):=by
  intro d
  induction d with
  | zero => intro i hi; exact hadj i hi
  | succ d ih =>
   intro i hi
   exact vlt_tr (hok _ (by omega)) (hok (i + d + 1) (by omega)) (hok _ hi) (ih i (by omega)) (hadj (i + d + 1) hi)
 rw [List.pairwise_iff_getElem]
 intro i j hi hj hij
 have := key (j - i - 1) i (by omega)
 rw [show i + (j - i - 1) + 1 = j by omega,List.getElem?_eq_getElem hi,List.getElem?_eq_getElem hj] at this
 exact this
abbrev wholeX (kd i : Int) : Vv:=⟨kd,false,.slice none 0 0,false,.slice none 0 0,i⟩
def wholeV (kd i : Int) : Vq:=⟨kd,false,[],false,[],i⟩
theorem wholeX_is (K : Nat) (w : World) (kd i : Int) : VlX K w (wholeV kd i) (wholeX kd i):=⟨rfl,rfl,rfl,rfl,Lm.nil K w,Lm.nil K w⟩
def testH (t : Tq) (s : Sc) (c : Int) : Bool × Bool :=
 if t.kd = 0 then (c == 1,true) else if fnd s.cuts t.cut = false then (false,false)
 else if t.op = 14 then (c == 2 * (srch s.cuts t.cut : Int) + 1,true)
 else if t.snd = true then (decide (2 * (srch s.cuts t.cut : Int) + 1 < c),true) else (decide (c < 2 * (srch s.cuts t.cut : Int) + 1),true)
theorem tholds_any (K : Nat) (t : Tq) (s : Sc) (c : Int) (x : Tv) (y : Sv) (w : World) (ht : TqX K w t x) (hs : ScX K w s y) (hK : K <= w.heap.size) (hcc : CutsOk s.kd s.cuts) (htk : t.kd ≠ 0 -> t.cut.good = true /\ t.cut.ok = true /\ t.cut.kd = s.kd) (hbig : s.cuts.length <= 2 ^ 38) :
  Calls Tryz.prog 151 #[x.agg,y.agg,.int .i64 c] w fun e w' => e = .returned (.tuple #[.bool (testH t s c).1,.bool (testH t s c).2]) /\ Below w.heap.size w w':=by
 obtain ⟨W1,hW1⟩ : ∃ W1,(w.alloc (.cells x.cells 156)).alloc (.cells y.cells 79) = W1:=⟨_,rfl⟩
 have b1 : Below w.heap.size w W1:=by rw [<- hW1]; exact ((Below.refl _ _).alloc (Nat.le_refl _) _).alloc (by simp) _
 have q1 : Blk W1 w.heap.size x.cells 156:=by rw [<- hW1]; exact (Blk.new w _ _).alloc _
 have q2 : Blk W1 (w.heap.size + 1) y.cells 79:=by
  rw [<- hW1]
  have := Blk.new (w.alloc (.cells x.cells 156)) y.cells 79
  rwa [World.size_alloc] at this
 have s1 : W1.heap.size = w.heap.size + 2:=by rw [<- hW1]; simp
 obtain ⟨B,hB⟩ : ∃ B,w.heap.size = B:=⟨_,rfl⟩
 have HB:=Lib.hid hB
 have HW:=Lib.hid hW1
 rw [hB] at hK b1 q1 q2 s1 ⊢
 have hcuts:=hs.cuts.below b1 hK hK
 have hx1:=ht.cut.below b1 hK hK
 have hkd:=hs.kd
 have htkd:=ht.kd
 have htop:=ht.op
 have htsn:=ht.snd
 clear hB hW1 hs ht
 obtain ⟨va,vcap,hve,_,_⟩:=id hcuts.form
 obtain ⟨a1,m1,hv1,_⟩:=hx1.n.form
 obtain ⟨a2,m2,hv2,_⟩:=hx1.d.form
 have hvk:=hx1.kd
 obtain ⟨⟨yop,ynm,yk,yb3,⟨y4,y4n,y4m⟩,yb5,⟨y6,y6n,y6m⟩,yi7,⟨y8,y8n,y8m⟩⟩,sk,⟨ca,cn,cm⟩⟩:=y
 dsimp only [Sl.val] at hve hkd hcuts
 simp only [Value.slice.injEq] at hve
 obtain ⟨rfl,rfl,rfl⟩:=hve
 subst hkd
 obtain ⟨l1n,hl1n⟩ : ∃ n,t.cut.l1.length = n:=⟨_,rfl⟩
 obtain ⟨l2n,hl2n⟩ : ∃ n,t.cut.l2.length = n:=⟨_,rfl⟩
 rw [hl1n] at hv1
 rw [hl2n] at hv2
 obtain ⟨⟨xop,xnm,xk,xb3,⟨x4,x4n,x4m⟩,xb5,⟨x6,x6n,x6m⟩,xi7,⟨x8,x8n,x8m⟩⟩,tk,⟨kx,f1,x1,f2,x2,xi⟩,to,tsn⟩:=x
 dsimp only at hv1 hv2 hvk htkd htop htsn hx1
 subst hv1 hv2
 have hsr : t.kd ≠ 0 -> ∀ W,Below W1.heap.size W1 W -> Calls Tryz.prog 80 #[.pointer (some ⟨B + 1,0,none⟩),.agg #[.int .u8 kx,.bool f1,.slice a1 l1n m1,.bool f2,.slice a2 l2n m2,.int .i64 xi]] W fun e w' => e = .returned (.tuple #[.int .i64 (srch s.cuts t.cut),.bool (fnd s.cuts t.cut)]) /\ Below W.heap.size W w':=fun h0 W hb => by
  obtain ⟨h1,h2,h3⟩:=htk h0
  have := hb.size
  have hq:=q2.below hb q2.lt
  exact gsearch_any B (B + 1) 0 _ s.cuts s.kd t.cut ⟨kx,f1,.slice a1 l1n m1,f2,.slice a2 l2n m2,xi⟩ W (hcuts.below hb (by rw [s1]; omega) (Nat.le_refl _)) (hx1.below hb (by rw [s1]; omega) (Nat.le_refl _)) hcc h1 h2 h3 (by rw [s1] at this; omega) (hq.at rfl) (by rw [s1] at this; omega) hbig
 obtain ⟨n,hnl⟩ : ∃ n,s.cuts.length = n:=⟨_,rfl⟩
 rw [hnl] at q2 HW hbig ⊢
 have HSR:=Lib.hid hsr
 have hsl : srch s.cuts t.cut <= n:=by rw [<- hnl]; exact srch_le _ _
 obtain ⟨C,hC⟩ : ∃ C,testH t s c = C:=⟨_,rfl⟩
 rw [hC]
 unfold testH at hC
 rw [<- htkd,<- htop,<- htsn] at hC
 obtain ⟨kd,hkd⟩ : ∃ kd,s.kd = kd:=⟨_,rfl⟩
 rw [hkd] at HW q2 ⊢
 have HQ1:=Lib.hid q1
 have HQ2:=Lib.hid q2
 have d9:=q1.at (i:=9) (x:=.int .u8 tk) rfl
 have d10:=q1.at (i:=10) (x:=.int .u8 kx) rfl
 have d11:=q1.at (i:=11) (x:=.bool f1) rfl
 have d12:=q1.at (i:=12) (x:=.slice a1 l1n m1) rfl
 have d13:=q1.at (i:=13) (x:=.bool f2) rfl
 have d14:=q1.at (i:=14) (x:=.slice a2 l2n m2) rfl
 have d15:=q1.at (i:=15) (x:=.int .i64 xi) rfl
 have ltB : B < W1.heap.size:=by omega
 have HTK : Hid (tk ≠ 0 -> t.kd ≠ 0):=Lib.hid fun h => by rw [<- htkd]; exact h
 clear hl1n hl2n hcuts hx1 hnl q1 q2 hkd hsr hvk htkd htop htsn htk hcc
 by_cases h0 : tk = 0
 ·subst h0
  rw [if_pos rfl] at hC
  subst hC
  go_enter Tryz.func151,Tryz.ntmps151
  go_upto_region 1 with fail
  simp only [HB.out]
  rw [HW.out]
  go_wp2_with fail
  go_ret2
  exact ⟨rfl,b1⟩
 ·rw [if_neg h0] at hC
  have e0 : (tk == 0) = false:=by simpa using h0
  have hsc:=HSR.out (HTK.out h0) W1 (Below.refl _ _)
  obtain ⟨f,hf⟩ : ∃ f,fnd s.cuts t.cut = f:=⟨_,rfl⟩
  obtain ⟨r,hr⟩ : ∃ r,srch s.cuts t.cut = r:=⟨_,rfl⟩
  rw [hf,hr] at hsc hC
  rw [hr] at hsl
  have hw1 : IntKind.i64.wrap (2 * (r : Int)) = 2 * (r : Int):=IntWalk.i64_in _ (by omega)
  have hw2 : IntKind.i64.wrap (2 * (r : Int) + 1) = 2 * (r : Int) + 1:=IntWalk.i64_in _ (by omega)
  have HS:=Lib.hid hsc
  clear hsc hf hr h0
  go_enter Tryz.func151,Tryz.ntmps151
  go_upto_region 1 with fail
  simp only [HB.out]
  rw [HW.out]
  go_wp2_with fail
  refine HS.out.mono ?_
  rintro e w2 ⟨rfl,hb2⟩
  clear d9 d10 d11 d12 d13 d14 d15
  have d16:=(HQ1.out.below hb2 ltB).at (i:=16) (x:=.int .u8 to) rfl
  have d17:=(HQ1.out.below hb2 ltB).at (i:=17) (x:=.bool tsn) rfl
  cases f with
  | false =>
   rw [if_pos rfl] at hC
   subst hC
   go_wp2_with fail
   go_ret2
   exact ⟨rfl,b1.trans (hb2.mono (by omega))⟩
  | true =>
   rw [if_neg (by simp)] at hC
   by_cases ho : to = 14
   ·subst ho
    rw [if_pos rfl] at hC
    subst hC
    go_wp2_with fail
    go_ret2
    exact ⟨rfl,b1.trans (hb2.mono (by omega))⟩
   ·rw [if_neg ho] at hC
    have e1 : (to == 14) = false:=by simpa using ho
    cases tsn with
    | true =>
     rw [if_pos rfl] at hC
     subst hC
     go_wp2_with fail
     go_ret2
     exact ⟨rfl,b1.trans (hb2.mono (by omega))⟩
    | false =>
     rw [if_neg (by simp)] at hC
     subst hC
     go_wp2_with fail
     go_ret2
     exact ⟨rfl,b1.trans (hb2.mono (by omega))⟩
def testC (l : List Sc) (cs : List Int) (e : Gx) : Bool × Bool :=
 if l.findIdx (testOf e).belongs < l.length then testH (testOf e) (l[l.findIdx (testOf e).belongs]?.getD default) (cs[l.findIdx (testOf e).belongs]?.getD 0) else (false,false)
def combG (o : Int) (f : Nat -> Bool) : Bool:=if o = 15 then f 0 && f 1 else if o = 16 then f 0 || f 1 else if o = 17 then !f 0 else if f 0 then f 1 else f 2
mutual
def holdG (l : List Sc) (cs : List Int) : Gx -> Bool × Bool
 | .mk o n v es => if (Gx.mk o n v es).settled then (v.i == 1,true) else if (Gx.mk o n v es).composed then (combG o fun k => ((holdL l cs es)[k]?.getD (false,true)).1,(holdL l cs es).all (·.2)) else testC l cs (.mk o n v es)
def holdL (l : List Sc) (cs : List Int) : List Gx -> List (Bool × Bool)
 | [] => []
 | e :: r => holdG l cs e :: holdL l cs r
end
theorem holdL_map (l : List Sc) (cs : List Int) (es : List Gx) : holdL l cs es = es.map (holdG l cs):=by
 induction es with
 | nil => rw [holdL]; rfl
 | cons e r ih => rw [holdL,ih]; rfl
def argH (l : List Sc) (cs : List Int) (e : Gx) (k : Nat) : Bool × Bool:=((e.args.map (holdG l cs))[k]?.getD (false,true))
theorem holdG_eq (l : List Sc) (cs : List Int) (e : Gx) : holdG l cs e = if e.settled then (e.v.i == 1,true) else if e.composed then (combG e.op fun k => (argH l cs e k).1,(e.args.map (holdG l cs)).all (·.2)) else testC l cs e:=by
 cases e with
 | mk o n v es => rw [holdG,holdL_map]; rfl
theorem argH_at {l : List Sc} {cs : List Int} {e a : Gx} {k : Nat} (h : e.args[k]? = some a) : argH l cs e k = holdG l cs a:=by
 unfold argH; rw [List.getElem?_map,h]; rfl
theorem composed_len {e : Gx} (h : e.composed = true) : e.args.length <= 3:=by
 unfold Gx.composed at h
 simp only [Bool.or_eq_true,Bool.and_eq_true,beq_iff_eq] at h
 omega
def belG (l : List Sc) (cs : List Int) (e : Gx) (j : Nat) : Bool:=((e.args.map (holdG l cs)).take j).all (·.2)
theorem belG_zero (l : List Sc) (cs : List Int) (e : Gx) : belG l cs e 0 = true:=by unfold belG; simp
theorem belG_succ {l : List Sc} {cs : List Int} {e a : Gx} {j : Nat} (h : e.args[j]? = some a) : belG l cs e (j + 1) = (belG l cs e j && (holdG l cs a).2):=by
 unfold belG
 have hj:=(List.getElem?_eq_some_iff.1 h).1
 have hj' : j < (e.args.map (holdG l cs)).length:=by simpa using hj
 rw [List.take_succ_eq_append_getElem hj',List.all_append]
 have : (e.args.map (holdG l cs))[j] = holdG l cs a:=by
  rw [List.getElem_map]; rw [List.getElem?_eq_getElem hj] at h; rw [Option.some.inj h]
 rw [this]; simp
theorem belG_all (l : List Sc) (cs : List Int) (e : Gx) : belG l cs e e.args.length = (e.args.map (holdG l cs)).all (·.2):=by
 unfold belG; rw [List.take_of_length_le (by simp)]
def vArr (f : Nat -> Bool) (j : Nat) : Array Value:=#[.bool (decide (0 < j) && f 0),.bool (decide (1 < j) && f 1),.bool (decide (2 < j) && f 2)]
theorem vArr_set {f : Nat -> Bool} {j : Nat} (hj : j < 3) : (vArr f j).setIfInBounds j (.bool (f j)) = vArr f (j + 1):=by
 match j,hj with
 | 0,_ => simp [vArr]
 | 1,_ => simp [vArr]
 | 2,_ => simp [vArr]
theorem vArr_get {f : Nat -> Bool} {n : Nat} (h : ∀ k,n <= k -> f k = false) : vArr f n = #[.bool (f 0),.bool (f 1),.bool (f 2)]:=by
 have h2 : ∀ k,(decide (k < n) && f k) = f k:=fun k => by
  by_cases hk : k < n
  ·simp [hk]
  ·rw [h k (by omega)]; simp
 unfold vArr; rw [h2,h2,h2]
theorem argH_none {l : List Sc} {cs : List Int} {e : Gx} {k : Nat} (h : e.args.length <= k) : argH l cs e k = (false,true):=by
 unfold argH; rw [List.getElem?_eq_none (by simpa using h)]; rfl
def cellB (l : List Sc) (cs : List Int) (i : Nat) : Bool:=(l[i]?.getD default).okB && decide (0 <= cs[i]?.getD 0) && decide (cs[i]?.getD 0 < cntN (l[i]?.getD default).kd (l[i]?.getD default).cuts.length)
def holdsS (e : Gx) (l : List Sc) (cs : List Int) : Bool × Int :=
 if fits e = false \/ cs.length ≠ l.length then (false,2)
 else if (List.range l.length).any (fun i => !(cellB l cs i)) = true then (false,2)
 else if (holdG l cs e).2 = false then (false,2) else ((holdG l cs e).1,0)
end Go.Proofs.YtlidpghnlloinaaGreatDoor
