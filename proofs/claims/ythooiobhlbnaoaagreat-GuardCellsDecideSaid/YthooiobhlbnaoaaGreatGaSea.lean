/- Contracts and plain laws, several texts in one (GSearch, GSearch2, GSearch3, GSame, GScale, GTest, GTest2). No conditions beyond those stated. -/
import Derived.Test.YthooiobhlbnaoaaGreatGaTim
import Derived.Deep.Cut
namespace Go.Proofs.YthooiobhlbnaoaaGreat
open Go.RowKit
set_option linter.unusedVariables false

set_option maxRecDepth 10000 in
set_option maxHeartbeats 1000000 in
theorem ssearch_any (n : Nat) (p : Nat → Bool) (p1 p2 : Value) (w : World) (hn : n ≤ 2 ^ 38) (hmono : ∀ i j, i ≤ j → p i = true → p j = true)
    (hc : ∀ i : Nat, i < n → ∀ W, Below w.heap.size w W → Calls Tryz.prog 106 #[.int .i64 i, p1, p2] W fun e w' => e = .returned (.bool (p i)) ∧ Below W.heap.size W w') :
    Calls Tryz.prog 105 #[.int .i64 n, .func (.func 106) #[] #[p1, p2]] w fun e w' => ∃ r : Nat, e = .returned (.int .i64 r) ∧ r ≤ n ∧ (∀ i, i < r → p i = false) ∧ (∀ i, r ≤ i → i < n → p i = true) ∧ Below w.heap.size w w' := by
  have HC := Lib.hid hc
  have HM := Lib.hid hmono
  clear hc hmono
  go_enter Tryz.func105, Tryz.ntmps105
  go_wp2_with fail
  go_loopw [5, 6] (fun x y wr => ∃ i j : Nat, x = .int .i64 i ∧ y = .int .i64 j ∧ i ≤ j ∧ j ≤ n ∧ Hid (∀ k, k < i → p k = false) ∧ Hid (∀ k, j ≤ k → k < n → p k = true) ∧ Below w.heap.size w wr) (fun x y _ => (intOf y).toNat - (intOf x).toNat)
  case atStart => exact ⟨0, n, rfl, rfl, Nat.zero_le _, Nat.le_refl _, Lib.hid fun k hk => absurd hk (Nat.not_lt_zero k), Lib.hid fun k h1 h2 => by omega, Below.refl _ _⟩
  case round =>
    obtain ⟨i, j, rfl, rfl, hij, hj, HA, HB, hb⟩ := hrel
    by_cases hlt : i < j
    · have hdv : ((i : Int) + (j : Int)) / 2 = (((i + j) / 2 : Nat) : Int) := by omega
      obtain ⟨h, hh⟩ : ∃ h, (i + j) / 2 = h := ⟨_, rfl⟩
      have h1 : i ≤ h := by omega
      have h2 : h < j := by omega
      rw [hh] at hdv
      have hcall := HC.out h (by omega) wr hb
      obtain ⟨c, hcp⟩ : ∃ c, p h = c := ⟨_, rfl⟩
      have HP := Lib.hid hcp
      rw [hcp] at hcall
      clear hcp hh
      go_wp2_with fail
      refine hcall.mono ?_
      rintro e w2 ⟨rfl, hb2⟩
      have hb' : Below w.heap.size w w2 := hb.trans (hb2.mono hb.size)
      clear hcall
      cases c with
      | false =>
        go_wp2_with fail
        refine ⟨⟨h + 1, j, by simp, rfl, by omega, hj, Lib.hid fun k hk => ?_, HB, hb'⟩, by simp [intOf]; omega⟩
        cases hpk : p k with
        | false => rfl
        | true => have := HM.out k h (by omega) hpk; rw [HP.out] at this; cases this
      | true =>
        go_wp2_with fail
        exact ⟨⟨i, h, rfl, rfl, h1, by omega, HA, Lib.hid fun k hk hkn => HM.out h k hk HP.out, hb'⟩, by simp [intOf]; omega⟩
    · obtain rfl : i = j := by omega
      go_wp2_with fail
      go_ret
      exact ⟨i, rfl, hj, HA.out, HB.out, hb⟩
end Go.Proofs.YthooiobhlbnaoaaGreat
namespace Go.Proofs.YthooiobhlbnaoaaGreat
open Go.RowKit
set_option linter.unusedVariables false

def Vv.cell (x : Vv) : Nat → Value
  | 0 => .int .u8 x.kd
  | 1 => .bool x.b1
  | 2 => x.s1
  | 3 => .bool x.b2
  | 4 => x.s2
  | _ => .int .i64 x.i
/-- v reads as the cuts l. -/
def CutsX (K : Nat) (w : World) (v : Value) (l : List Vq) : Prop := ∃ g : Nat → Vv, RowsV 6 (fun i j => (g i).cell j) K w v l.length ∧ ∀ i, i < l.length → VlX K w (l[i]?.getD v0) (g i)
theorem CutsX.below {K K' B : Nat} {w w' : World} {v : Value} {l : List Vq} (h : CutsX K w v l) (hb : Below B w w') (hB : K ≤ B) (hK : K ≤ K') : CutsX K' w' v l := by
  obtain ⟨g, h1, h2⟩ := h
  exact ⟨g, h1.below hb hB hK, fun i hi => (h2 i hi).below hb hB hK⟩
theorem CutsX.form {K : Nat} {w : World} {v : Value} {l : List Vq} (h : CutsX K w v l) : ∃ a cap, v = .slice a l.length cap ∧ l.length ≤ cap ∧ cap ≤ maxLen := by
  obtain ⟨g, h1, h2⟩ := h; exact h1.form
/-- The cuts of a scale of a kind: valid, increasing. -/
structure CutsOk (kd : Int) (l : List Vq) : Prop where
  good : ∀ c ∈ l, c.good = true
  ok : ∀ c ∈ l, c.ok = true
  kd : ∀ c ∈ l, c.kd = kd
  inc : l.Pairwise vlt
theorem CutsOk.at {kd : Int} {l : List Vq} (h : CutsOk kd l) {i : Nat} (hi : i < l.length) : (l[i]?.getD v0).good = true ∧ (l[i]?.getD v0).ok = true ∧ (l[i]?.getD v0).kd = kd := by
  rw [List.getElem?_eq_getElem hi]; exact ⟨h.good _ (List.getElem_mem hi), h.ok _ (List.getElem_mem hi), h.kd _ (List.getElem_mem hi)⟩
theorem cmpI_ge (a b : Int) : decide (0 ≤ cmpI a b) = decide (b ≤ a) := by
  unfold cmpI; split
  · simp; omega
  · split
    · simp; omega
    · simp; omega
theorem cmpI_zero (a b : Int) : (cmpI a b == 0) = decide (a = b) := by
  unfold cmpI; split
  · rw [Bool.eq_iff_iff]; simp; omega
  · split
    · rw [Bool.eq_iff_iff]; simp; omega
    · rw [Bool.eq_iff_iff]; simp; omega
theorem vcmp_ge (a b : Vq) : decide (0 ≤ vcmp a b) = vle b a := cmpI_ge _ _
theorem vcmp_zero (a b : Vq) : (vcmp a b == 0) = veq a b := cmpI_zero _ _
theorem val_cells {g : Nat → Vv} {w : World} {b o k n : Nat} (hc : ∀ i, i < n → ∀ j, j < 6 → w.cell? ⟨b, o + (i * 6 + j), none⟩ = some ((g i).cell j)) (hk : k < n) :
    w.cell? ⟨b, o + k * 6, none⟩ = some (.int .u8 (g k).kd) ∧ w.cell? ⟨b, o + k * 6 + 1, none⟩ = some (.bool (g k).b1) ∧ w.cell? ⟨b, o + k * 6 + 2, none⟩ = some (g k).s1 ∧ w.cell? ⟨b, o + k * 6 + 3, none⟩ = some (.bool (g k).b2) ∧
    w.cell? ⟨b, o + k * 6 + 4, none⟩ = some (g k).s2 ∧ w.cell? ⟨b, o + k * 6 + 5, none⟩ = some (.int .i64 (g k).i) := by
  have h := hc k hk
  exact ⟨h 0 (by omega), h 1 (by omega), h 2 (by omega), h 3 (by omega), h 4 (by omega), h 5 (by omega)⟩

set_option maxRecDepth 10000 in
set_option maxHeartbeats 2000000 in
theorem searchF_any (K P1 P2 sb so : Nat) (cv : Value) (l : List Vq) (kd : Int) (v : Vq) (x : Vv) (i : Nat) (w : World) (hl : CutsX K w cv l) (hv : VlX K w v x) (ho : CutsOk kd l) (hvo : v.good = true) (hvo1 : v.ok = true) (hvk : v.kd = kd) (hK : K ≤ w.heap.size)
    (q1 : Blk w P1 #[.pointer (some ⟨sb, so, none⟩)] 144) (q2 : Blk w P2 x.cells 30) (hs : w.cell? ⟨sb, so + 10, none⟩ = some cv) (hsb : sb < w.heap.size) (hi : i < l.length) :
    Calls Tryz.prog 106 #[.int .i64 i, .pointer (some ⟨P1, 0, none⟩), .pointer (some ⟨P2, 0, none⟩)] w fun e w' => e = .returned (.bool (vle v (l[i]?.getD v0))) ∧ Below w.heap.size w w' := by
  obtain ⟨hok, hok1, hkd⟩ := ho.at hi
  obtain ⟨g, hg, hgi⟩ := hl
  obtain ⟨cb, co, cap, rfl, hn, hm, hbK, hc⟩ := hg.pos (by omega)
  have hgx := hgi i hi
  have hcmp : ∀ W, Below w.heap.size w W → Calls Tryz.prog 75 #[(g i).agg, x.agg] W fun e w' => e = .returned (.int .i64 (vcmp (l[i]?.getD v0) v)) ∧ Below W.heap.size W w' := fun W hb =>
    gcompare_any W.heap.size _ v _ x W (hgx.below hb hK (Nat.le_trans hK hb.size)) (hv.below hb hK (Nat.le_trans hK hb.size)) (Nat.le_refl _) hok hvo hok1 hvo1 (by rw [hkd, hvk])
  have hge := vcmp_ge (l[i]?.getD v0) v
  obtain ⟨r, hr⟩ : ∃ r, vle v (l[i]?.getD v0) = r := ⟨_, rfl⟩
  rw [hr] at hge ⊢
  obtain ⟨ci, hci⟩ : ∃ ci, vcmp (l[i]?.getD v0) v = ci := ⟨_, rfl⟩
  simp only [hci] at hcmp hge
  obtain ⟨n, hnl⟩ : ∃ n, l.length = n := ⟨_, rfl⟩
  rw [hnl] at hi hc hn hs
  have HH := Lib.hid hcmp
  have hcells := val_cells hc hi
  have hcc : ∀ W, Below w.heap.size w W → W.cell? ⟨cb, co + i * 6, none⟩ = some (.int .u8 (g i).kd) ∧ W.cell? ⟨cb, co + i * 6 + 1, none⟩ = some (.bool (g i).b1) ∧ W.cell? ⟨cb, co + i * 6 + 2, none⟩ = some (g i).s1 ∧ W.cell? ⟨cb, co + i * 6 + 3, none⟩ = some (.bool (g i).b2) ∧
      W.cell? ⟨cb, co + i * 6 + 4, none⟩ = some (g i).s2 ∧ W.cell? ⟨cb, co + i * 6 + 5, none⟩ = some (.int .i64 (g i).i) := fun W hb => by
    have hbl : cb < w.heap.size := by omega
    exact ⟨(hb.cell (p := ⟨cb, _, none⟩) hbl).trans hcells.1, (hb.cell (p := ⟨cb, _, none⟩) hbl).trans hcells.2.1, (hb.cell (p := ⟨cb, _, none⟩) hbl).trans hcells.2.2.1, (hb.cell (p := ⟨cb, _, none⟩) hbl).trans hcells.2.2.2.1, (hb.cell (p := ⟨cb, _, none⟩) hbl).trans hcells.2.2.2.2.1, (hb.cell (p := ⟨cb, _, none⟩) hbl).trans hcells.2.2.2.2.2⟩
  have HCC := Lib.hid hcc
  clear hr hci hnl hcmp hgx hgi hg hc hcells hcc hok hok1 hkd ho hv hvo hvo1 hvk
  obtain ⟨y, hy⟩ : ∃ y, g i = y := ⟨_, rfl⟩
  simp only [hy] at HH HCC
  clear hy
  obtain ⟨kx, m1, x1, m2, x2, xi⟩ := x
  obtain ⟨ky, n1, y1, n2, y2, yi⟩ := y
  go_enter Tryz.func106, Tryz.ntmps106
  go_upto_region 1 with fail
  refine region_plain (fun W' => Below w.heap.size w W') [] (by kernel_rfl) ?_
  have qS : (fun W' => Below w.heap.size w W') w.drew := below_quiet (Below.refl _ _)
  refine wpAnyD_take (i := 0) (v := .pointer (some ⟨sb, so, none⟩)) rfl (by kernel_rfl) (by kernel_rfl) (by kernel_rfl) (by kernel_rfl) (by kernel_rfl) (fun _ _ _ h => h) (.inl ⟨by kernel_rfl, fun W' hS => by have d0 := (q1.below hS q1.lt).at (i := 0) rfl; go_simp⟩) qS ?_
  refine wpAnyD_take (i := 1) (v := .pointer (some ⟨sb, so, none⟩)) rfl (by kernel_rfl) (by kernel_rfl) (by kernel_rfl) (by kernel_rfl) (by kernel_rfl) (fun _ _ _ h => h) (.inl ⟨by kernel_rfl, fun W' hS => by go_simp⟩) qS ?_
  refine wpAnyD_take (i := 2) (v := .pointer (some ⟨sb, so + 10, none⟩)) rfl (by kernel_rfl) (by kernel_rfl) (by kernel_rfl) (by kernel_rfl) (by kernel_rfl) (fun _ _ _ h => h) (.inl ⟨by kernel_rfl, fun W' hS => by go_simp⟩) qS ?_
  refine wpAnyD_take (i := 3) (v := .slice (some ⟨cb, co, none⟩) n cap) rfl (by kernel_rfl) (by kernel_rfl) (by kernel_rfl) (by kernel_rfl) (by kernel_rfl) (fun _ _ _ h => h) (.inl ⟨by kernel_rfl, fun W' hS => by have d := (hS.cell (p := ⟨sb, so + 10, none⟩) hsb).trans hs; go_simp⟩) qS ?_
  refine wpAnyD_take (i := 4) (v := .int .i64 i) rfl (by kernel_rfl) (by kernel_rfl) (by kernel_rfl) (by kernel_rfl) (by kernel_rfl) (fun _ _ _ h => h) (.inl ⟨by kernel_rfl, fun W' hS => by go_simp⟩) qS ?_
  refine wpAnyD_take (i := 5) (v := .pointer (some ⟨cb, co + i * 6, none⟩)) rfl (by kernel_rfl) (by kernel_rfl) (by kernel_rfl) (by kernel_rfl) (by kernel_rfl) (fun _ _ _ h => h) (.inl ⟨by kernel_rfl, fun W' hS => by go_simp⟩) qS ?_
  refine wpAnyD_take (i := 6) (v := .agg #[.int .u8 ky, .bool n1, y1, .bool n2, y2, .int .i64 yi]) rfl (by kernel_rfl) (by kernel_rfl) (by kernel_rfl) (by kernel_rfl) (by kernel_rfl) (fun _ _ _ h => h) (.inl ⟨by kernel_rfl, fun W' hS => by obtain ⟨d0, d1, d2, d3, d4, d5⟩ := HCC.out W' hS; go_simp⟩) qS ?_
  refine wpAnyD_take (i := 7) (v := .agg #[.int .u8 kx, .bool m1, x1, .bool m2, x2, .int .i64 xi]) rfl (by kernel_rfl) (by kernel_rfl) (by kernel_rfl) (by kernel_rfl) (by kernel_rfl) (fun _ _ _ h => h) (.inl ⟨by kernel_rfl, fun W' hS => by have d0 := (q2.below hS q2.lt).at (i := 0) rfl; have d1 := (q2.below hS q2.lt).at (i := 1) rfl; have d2 := (q2.below hS q2.lt).at (i := 2) rfl; have d3 := (q2.below hS q2.lt).at (i := 3) rfl; have d4 := (q2.below hS q2.lt).at (i := 4) rfl; have d5 := (q2.below hS q2.lt).at (i := 5) rfl; go_simp⟩) qS ?_
  refine wpAnyD_one (i := 8) (by kernel_rfl) rfl (by kernel_rfl) ?_
  go_simp
  refine (HH.out _ qS).mono ?_
  rintro e w3 ⟨rfl, hb3⟩
  have qS3 : Below w.heap.size w w3 := qS.trans (hb3.mono qS.size)
  go_simp
  refine wpAnyD_take (i := 9) (v := .bool r) rfl (by kernel_rfl) (by kernel_rfl) (by kernel_rfl) (by kernel_rfl) (by kernel_rfl) (fun _ _ _ h => h) (.inl ⟨by kernel_rfl, fun W' hS => by go_simp⟩) qS3 ?_
  refine wpAnyD_one (i := 10) (by kernel_rfl) rfl (by kernel_rfl) ?_
  go_simp
  refine wpAnyD_done (by kernel_rfl) ?_ _
  go_wp2_with fail
  go_ret
  exact ⟨rfl, qS3⟩
end Go.Proofs.YthooiobhlbnaoaaGreat
namespace Go.Proofs.YthooiobhlbnaoaaGreat
open Go.RowKit
set_option linter.unusedVariables false

theorem vbot_nonneg (v : Vq) : 0 ≤ v.bot := by unfold Vq.bot; split <;> omega
theorem vbot_pos {v : Vq} (h : v.ok = true) : 0 < v.bot := by
  unfold Vq.bot
  cases hf : v.fr with
  | false => simp
  | true =>
    simp only [if_true]
    unfold Vq.ok frOk at h
    rw [hf] at h
    simp only [if_true, Bool.and_eq_true, decide_eq_true_eq, beq_iff_eq, bne_iff_ne, ne_eq, Bool.not_eq_true'] at h
    obtain ⟨h0, ⟨⟨⟨⟨⟨h1, h2⟩, h3⟩, h4⟩, h5⟩, h6⟩, h7⟩ := h
    have hl : lval v.l2 ≠ 0 := by
      unfold wOk at h4
      rw [if_neg h6] at h4
      simp only [Bool.and_eq_true, bne_iff_ne, ne_eq] at h4
      have : ∀ l : List Nat, l.length ≠ 0 → l[l.length - 1]?.getD 0 ≠ 0 → lval l ≠ 0 := by
        intro l
        induction l with
        | nil => intro h; exact absurd rfl h
        | cons d r ih =>
          intro _ hl
          unfold lval
          cases r with
          | nil => simp at hl; omega
          | cons d' r' =>
            have hi := ih (by simp) (by simpa using hl)
            omega
      exact this _ h6 h4.2
    omega
theorem vle_vlt {v a b : Vq} (ha : a.ok = true) (h1 : vle v a = true) (h2 : vlt a b) : vle v b = true := by
  unfold vle vlt at *
  rw [decide_eq_true_eq] at *
  have pa := vbot_pos ha
  have nb := vbot_nonneg b
  have nv := vbot_nonneg v
  have e1 := Int.mul_le_mul_of_nonneg_right h1 nb
  have e2 := Int.mul_le_mul_of_nonneg_right (Int.le_of_lt h2) nv
  refine Int.le_of_mul_le_mul_right (a := a.bot) ?_ pa
  calc v.top * b.bot * a.bot = v.top * a.bot * b.bot := by rw [Int.mul_assoc, Int.mul_comm b.bot, ← Int.mul_assoc]
    _ ≤ a.top * v.bot * b.bot := e1
    _ = a.top * b.bot * v.bot := by rw [Int.mul_assoc, Int.mul_comm v.bot, ← Int.mul_assoc]
    _ ≤ b.top * a.bot * v.bot := e2
    _ = b.top * v.bot * a.bot := by rw [Int.mul_assoc, Int.mul_comm a.bot, ← Int.mul_assoc]
def atLeast (l : List Vq) (v : Vq) (i : Nat) : Bool := if i < l.length then vle v (l[i]?.getD v0) else true
theorem atLeast_mono {kd : Int} {l : List Vq} (h : CutsOk kd l) (v : Vq) (i j : Nat) (hij : i ≤ j) (hi : atLeast l v i = true) : atLeast l v j = true := by
  unfold atLeast at *
  by_cases hj : j < l.length
  · rw [if_pos hj]
    rw [if_pos (by omega)] at hi
    by_cases he : i = j
    · subst he; exact hi
    · have := List.pairwise_iff_getElem.1 h.inc i j (by omega) hj (by omega)
      have hok := (h.at (show i < l.length by omega)).2.1
      rw [List.getElem?_eq_getElem (show i < l.length by omega), Option.getD_some] at hi hok
      rw [List.getElem?_eq_getElem hj, Option.getD_some]
      exact vle_vlt hok hi this
  · rw [if_neg hj]
theorem srch_is {l : List Vq} {v : Vq} {r : Nat} (h1 : r ≤ l.length) (h2 : ∀ i, i < r → atLeast l v i = false) (h3 : ∀ i, r ≤ i → i < l.length → atLeast l v i = true) : srch l v = r := by
  unfold srch
  by_cases hr : r < l.length
  · rw [List.findIdx_eq hr]
    constructor
    · have := h3 r (Nat.le_refl _) hr
      unfold atLeast at this
      rw [if_pos hr, List.getElem?_eq_getElem hr, Option.getD_some] at this
      exact this
    · intro j hj
      have := h2 j hj
      unfold atLeast at this
      rw [if_pos (by omega), List.getElem?_eq_getElem (by omega), Option.getD_some] at this
      exact this
  · obtain rfl : r = l.length := by omega
    rw [List.findIdx_eq_length]
    intro x hx
    obtain ⟨j, hj, rfl⟩ := List.mem_iff_getElem.1 hx
    have := h2 j hj
    unfold atLeast at this
    rw [if_pos hj, List.getElem?_eq_getElem hj, Option.getD_some] at this
    exact this
theorem srch_le (l : List Vq) (v : Vq) : srch l v ≤ l.length := List.findIdx_le_length

set_option maxRecDepth 10000 in
set_option maxHeartbeats 2000000 in
theorem gsearch_any (K sb so : Nat) (cv : Value) (l : List Vq) (kd : Int) (v : Vq) (x : Vv) (w : World) (hl : CutsX K w cv l) (hv : VlX K w v x) (ho : CutsOk kd l) (hvo : v.good = true) (hvo1 : v.ok = true) (hvk : v.kd = kd) (hK : K ≤ w.heap.size)
    (hs : w.cell? ⟨sb, so + 10, none⟩ = some cv) (hsb : sb < w.heap.size) (hbig : l.length ≤ 2 ^ 38) :
    Calls Tryz.prog 61 #[.pointer (some ⟨sb, so, none⟩), x.agg] w fun e w' => e = .returned (.tuple #[.int .i64 (srch l v), .bool (fnd l v)]) ∧ Below w.heap.size w w' := by
  obtain ⟨x1, hx1⟩ : ∃ y : Vv, y = x := ⟨_, rfl⟩
  obtain ⟨W1, hW1⟩ : ∃ W1, (w.alloc (.cells #[.pointer (some ⟨sb, so, none⟩)] 144)).alloc (.cells x.cells 30) = W1 := ⟨_, rfl⟩
  have b1 : Below w.heap.size w W1 := by rw [← hW1]; exact ((Below.refl _ _).alloc (Nat.le_refl _) _).alloc (by simp) _
  have q1 : Blk W1 w.heap.size #[.pointer (some ⟨sb, so, none⟩)] 144 := by rw [← hW1]; exact (Blk.new w _ _).alloc _
  have q2 : Blk W1 (w.heap.size + 1) x.cells 30 := by
    rw [← hW1]
    have := Blk.new (w.alloc (.cells #[.pointer (some ⟨sb, so, none⟩)] 144)) x.cells 30
    rwa [World.size_alloc] at this
  have s1 : W1.heap.size = w.heap.size + 2 := by rw [← hW1]; simp
  obtain ⟨B, hB⟩ : ∃ B, w.heap.size = B := ⟨_, rfl⟩
  rw [hB] at hK b1 q1 q2 s1 hsb ⊢
  have hl1 := hl.below b1 hK hK
  have hv1 := hv.below b1 hK hK
  have hs1 : W1.cell? ⟨sb, so + 10, none⟩ = some cv := (b1.cell (p := ⟨sb, so + 10, none⟩) hsb).trans hs
  have hF : ∀ i : Nat, i < l.length → ∀ W, Below W1.heap.size W1 W → Calls Tryz.prog 106 #[.int .i64 i, .pointer (some ⟨B, 0, none⟩), .pointer (some ⟨B + 1, 0, none⟩)] W fun e w' => e = .returned (.bool (atLeast l v i)) ∧ Below W.heap.size W w' := fun i hi W hb => by
    have hWs := hb.size
    have := searchF_any B B (B + 1) sb so cv l kd v x i W (hl1.below hb (by omega) (Nat.le_refl _)) (hv1.below hb (by omega) (Nat.le_refl _)) ho hvo hvo1 hvk (by omega) (q1.below hb q1.lt) (q2.below hb q2.lt) ((hb.cell (p := ⟨sb, so + 10, none⟩) (by simp; omega)).trans hs1) (by omega) hi
    unfold atLeast
    rw [if_pos hi]
    exact this
  have hss := ssearch_any l.length (atLeast l v) _ _ W1 hbig (atLeast_mono ho v) hF
  obtain ⟨a, cap, rfl, hn, hm⟩ := hl.form
  have HB := Lib.hid hB
  have HW := Lib.hid hW1
  have HBIG := Lib.hid hbig
  obtain ⟨n, hnl⟩ : ∃ n, l.length = n := ⟨_, rfl⟩
  have HN := Lib.hid hnl
  rw [hnl] at hss hs1 hn
  clear hB hW1 hF hbig hnl hs
  obtain ⟨c1⟩ := (show W1.cell? ⟨B, 0, none⟩ = some (.pointer (some ⟨sb, so, none⟩)) ∧ True from ⟨q1.one.1, trivial⟩)
  have HL := Lib.hid hl1
  have HV := Lib.hid hv1
  clear hl hv hl1 hv1
  unfold maxLen at hm
  go_enter Tryz.func61, Tryz.ntmps61
  go_upto_region 1 with fail
  simp only [HB.out]
  rw [HW.out]
  go_wp2_with fail
  refine hss.mono ?_
  rintro e w2 ⟨r, rfl, hr1, hr2, hr3, hb2⟩
  clear hss c1
  have hs0 := hs1
  clear hs1
  have hr : Hid (srch l v = r) := Lib.hid (srch_is (by rw [HN.out]; exact hr1) hr2 (fun i h1 h2 => hr3 i h1 (by rw [HN.out] at h2; exact h2)))
  clear hr2 hr3
  have b2 : Below B w w2 := b1.trans (hb2.mono (by omega))
  have hs2 := hb2.size
  have q1 := q1.below hb2 q1.lt
  have q2 := q2.below hb2 q2.lt
  have hs1 : w2.cell? ⟨sb, so + 10, none⟩ = some (.slice a n cap) := (hb2.cell (p := ⟨sb, so + 10, none⟩) (by simp; omega)).trans hs0
  clear hs0
  by_cases hrn : r < n
  · have hL := HL.out
    have hV := HV.out
    obtain ⟨hok, hok1, hkd⟩ := ho.at (show r < l.length by rw [HN.out]; exact hrn)
    obtain ⟨g, hg, hgi⟩ := hL
    obtain ⟨cb, co, cap', he, _, _, hbK, hc⟩ := hg.pos (by rw [HN.out]; omega)
    rw [HN.out] at he hc hgi
    simp only [Value.slice.injEq, true_and] at he
    obtain ⟨rfl, rfl⟩ := he
    have hgx := hgi r hrn
    have hcells := val_cells hc hrn
    have hcmp : ∀ W, Below w2.heap.size w2 W → Calls Tryz.prog 75 #[(g r).agg, x.agg] W fun e w' => e = .returned (.int .i64 (vcmp (l[r]?.getD v0) v)) ∧ Below W.heap.size W w' := fun W hb => by
      have hbb : Below W1.heap.size W1 W := hb2.trans (hb.mono hs2)
      have := hbb.size
      exact gcompare_any W.heap.size _ v _ x W (hgx.below hbb (by omega) (by omega)) (hV.below hbb (by omega) (by omega)) (Nat.le_refl _) hok hvo hok1 hvo1 (by rw [hkd, hvk])
    have hz := vcmp_zero (l[r]?.getD v0) v
    obtain ⟨f, hf⟩ : ∃ f, fnd l v = f := ⟨_, rfl⟩
    have HF := Lib.hid hf
    rw [show veq (l[r]?.getD v0) v = f by rw [← hf]; unfold fnd; rw [hr.out, HN.out]; simp [hrn]] at hz
    obtain ⟨ci, hci⟩ : ∃ ci, vcmp (l[r]?.getD v0) v = ci := ⟨_, rfl⟩
    simp only [hci] at hcmp hz
    have hcc : ∀ W, Below w2.heap.size w2 W → W.cell? ⟨cb, co + r * 6, none⟩ = some (.int .u8 (g r).kd) ∧ W.cell? ⟨cb, co + r * 6 + 1, none⟩ = some (.bool (g r).b1) ∧ W.cell? ⟨cb, co + r * 6 + 2, none⟩ = some (g r).s1 ∧ W.cell? ⟨cb, co + r * 6 + 3, none⟩ = some (.bool (g r).b2) ∧
        W.cell? ⟨cb, co + r * 6 + 4, none⟩ = some (g r).s2 ∧ W.cell? ⟨cb, co + r * 6 + 5, none⟩ = some (.int .i64 (g r).i) := fun W hb => by
      have hbb : Below W1.heap.size W1 W := hb2.trans (hb.mono hs2)
      have hbl : cb < W1.heap.size := by omega
      exact ⟨(hbb.cell (p := ⟨cb, _, none⟩) hbl).trans hcells.1, (hbb.cell (p := ⟨cb, _, none⟩) hbl).trans hcells.2.1, (hbb.cell (p := ⟨cb, _, none⟩) hbl).trans hcells.2.2.1, (hbb.cell (p := ⟨cb, _, none⟩) hbl).trans hcells.2.2.2.1, (hbb.cell (p := ⟨cb, _, none⟩) hbl).trans hcells.2.2.2.2.1, (hbb.cell (p := ⟨cb, _, none⟩) hbl).trans hcells.2.2.2.2.2⟩
    have HCC := Lib.hid hcc
    have HH := Lib.hid hcmp
    have HO := Lib.hid ho
    clear hci hf hcmp hgx hgi hg hc hcells hcc hok hok1 hkd ho hV hvo hvo1 hvk
    obtain ⟨y, hy⟩ : ∃ y, g r = y := ⟨_, rfl⟩
    simp only [hy] at HH HCC
    clear hy
    obtain ⟨kx, m1, x1, m2, x2, xi⟩ := x
    obtain ⟨ky, n1, y1, n2, y2, yi⟩ := y
    have c1 := q1.one.1
    go_upto_region 2 with fail
    clear c1
    refine region_plain (fun W' => Below w2.heap.size w2 W') [] (by kernel_rfl) ?_
    have qS : (fun W' => Below w2.heap.size w2 W') w2.drew := below_quiet (Below.refl _ _)
    refine wpAnyD_take (i := 0) (v := .int .i64 r) rfl (by kernel_rfl) (by kernel_rfl) (by kernel_rfl) (by kernel_rfl) (by kernel_rfl) (fun _ _ _ h => h) (.inl ⟨by kernel_rfl, fun W' hS => by go_simp⟩) qS ?_
    refine wpAnyD_take (i := 1) (v := .int .i64 r) rfl (by kernel_rfl) (by kernel_rfl) (by kernel_rfl) (by kernel_rfl) (by kernel_rfl) (fun _ _ _ h => h) (.inl ⟨by kernel_rfl, fun W' hS => by go_simp⟩) qS ?_
    refine wpAnyD_take (i := 2) (v := .pointer (some ⟨sb, so, none⟩)) rfl (by kernel_rfl) (by kernel_rfl) (by kernel_rfl) (by kernel_rfl) (by kernel_rfl) (fun _ _ _ h => h) (.inl ⟨by kernel_rfl, fun W' hS => by have d0 := (q1.below hS q1.lt).at (i := 0) rfl; go_simp⟩) qS ?_
    refine wpAnyD_take (i := 3) (v := .pointer (some ⟨sb, so, none⟩)) rfl (by kernel_rfl) (by kernel_rfl) (by kernel_rfl) (by kernel_rfl) (by kernel_rfl) (fun _ _ _ h => h) (.inl ⟨by kernel_rfl, fun W' hS => by go_simp⟩) qS ?_
    refine wpAnyD_take (i := 4) (v := .pointer (some ⟨sb, so + 10, none⟩)) rfl (by kernel_rfl) (by kernel_rfl) (by kernel_rfl) (by kernel_rfl) (by kernel_rfl) (fun _ _ _ h => h) (.inl ⟨by kernel_rfl, fun W' hS => by go_simp⟩) qS ?_
    refine wpAnyD_take (i := 5) (v := .slice (some ⟨cb, co, none⟩) n cap) rfl (by kernel_rfl) (by kernel_rfl) (by kernel_rfl) (by kernel_rfl) (by kernel_rfl) (fun _ _ _ h => h) (.inl ⟨by kernel_rfl, fun W' hS => by have d := (hS.cell (p := ⟨sb, so + 10, none⟩) (by simp; omega)).trans hs1; go_simp⟩) qS ?_
    refine wpAnyD_take (i := 6) (v := .int .i64 n) rfl (by kernel_rfl) (by kernel_rfl) (by kernel_rfl) (by kernel_rfl) (by kernel_rfl) (fun _ _ _ h => h) (.inl ⟨by kernel_rfl, fun W' hS => by go_simp⟩) qS ?_
    refine wpAnyD_take (i := 7) (v := .bool true) rfl (by kernel_rfl) (by kernel_rfl) (by kernel_rfl) (by kernel_rfl) (by kernel_rfl) (fun _ _ _ h => h) (.inl ⟨by kernel_rfl, fun W' hS => by go_simp⟩) qS ?_
    refine wpAnyD_take (i := 8) (v := .bool true) rfl (by kernel_rfl) (by kernel_rfl) (by kernel_rfl) (by kernel_rfl) (by kernel_rfl) (fun _ _ _ h => h) (.inl ⟨by kernel_rfl, fun W' hS => by go_simp⟩) qS ?_
    refine wpAnyD_take (i := 9) (v := .pointer (some ⟨sb, so, none⟩)) rfl (by kernel_rfl) (by kernel_rfl) (by kernel_rfl) (by kernel_rfl) (by kernel_rfl) (fun _ _ _ h => h) (.inl ⟨by kernel_rfl, fun W' hS => by have d0 := (q1.below hS q1.lt).at (i := 0) rfl; go_simp⟩) qS ?_
    refine wpAnyD_take (i := 10) (v := .pointer (some ⟨sb, so, none⟩)) rfl (by kernel_rfl) (by kernel_rfl) (by kernel_rfl) (by kernel_rfl) (by kernel_rfl) (fun _ _ _ h => h) (.inl ⟨by kernel_rfl, fun W' hS => by go_simp⟩) qS ?_
    refine wpAnyD_take (i := 11) (v := .pointer (some ⟨sb, so + 10, none⟩)) rfl (by kernel_rfl) (by kernel_rfl) (by kernel_rfl) (by kernel_rfl) (by kernel_rfl) (fun _ _ _ h => h) (.inl ⟨by kernel_rfl, fun W' hS => by go_simp⟩) qS ?_
    refine wpAnyD_take (i := 12) (v := .slice (some ⟨cb, co, none⟩) n cap) rfl (by kernel_rfl) (by kernel_rfl) (by kernel_rfl) (by kernel_rfl) (by kernel_rfl) (fun _ _ _ h => h) (.inl ⟨by kernel_rfl, fun W' hS => by have d := (hS.cell (p := ⟨sb, so + 10, none⟩) (by simp; omega)).trans hs1; go_simp⟩) qS ?_
    refine wpAnyD_take (i := 13) (v := .int .i64 r) rfl (by kernel_rfl) (by kernel_rfl) (by kernel_rfl) (by kernel_rfl) (by kernel_rfl) (fun _ _ _ h => h) (.inl ⟨by kernel_rfl, fun W' hS => by go_simp⟩) qS ?_
    refine wpAnyD_take (i := 14) (v := .pointer (some ⟨cb, co + r * 6, none⟩)) rfl (by kernel_rfl) (by kernel_rfl) (by kernel_rfl) (by kernel_rfl) (by kernel_rfl) (fun _ _ _ h => h) (.inl ⟨by kernel_rfl, fun W' hS => by go_simp⟩) qS ?_
    refine wpAnyD_take (i := 15) (v := .agg #[.int .u8 ky, .bool n1, y1, .bool n2, y2, .int .i64 yi]) rfl (by kernel_rfl) (by kernel_rfl) (by kernel_rfl) (by kernel_rfl) (by kernel_rfl) (fun _ _ _ h => h) (.inl ⟨by kernel_rfl, fun W' hS => by obtain ⟨d0, d1, d2, d3, d4, d5⟩ := HCC.out W' hS; go_simp⟩) qS ?_
    refine wpAnyD_take (i := 16) (v := .agg #[.int .u8 kx, .bool m1, x1, .bool m2, x2, .int .i64 xi]) rfl (by kernel_rfl) (by kernel_rfl) (by kernel_rfl) (by kernel_rfl) (by kernel_rfl) (fun _ _ _ h => h) (.inl ⟨by kernel_rfl, fun W' hS => by have d0 := (q2.below hS q2.lt).at (i := 0) rfl; have d1 := (q2.below hS q2.lt).at (i := 1) rfl; have d2 := (q2.below hS q2.lt).at (i := 2) rfl; have d3 := (q2.below hS q2.lt).at (i := 3) rfl; have d4 := (q2.below hS q2.lt).at (i := 4) rfl; have d5 := (q2.below hS q2.lt).at (i := 5) rfl; go_simp⟩) qS ?_
    refine wpAnyD_one (i := 17) (by kernel_rfl) rfl (by kernel_rfl) ?_
    go_simp
    refine (HH.out _ qS).mono ?_
    rintro e w3 ⟨rfl, hb3⟩
    have qS3 : Below w2.heap.size w2 w3 := qS.trans (hb3.mono qS.size)
    go_simp
    refine wpAnyD_take (i := 18) (v := .bool f) rfl (by kernel_rfl) (by kernel_rfl) (by kernel_rfl) (by kernel_rfl) (by kernel_rfl) (fun _ _ _ h => h) (.inl ⟨by kernel_rfl, fun W' hS => by go_simp⟩) qS3 ?_
    refine wpAnyD_take (i := 19) (v := .bool f) rfl (by kernel_rfl) (by kernel_rfl) (by kernel_rfl) (by kernel_rfl) (by kernel_rfl) (fun _ _ _ h => h) (.inl ⟨by kernel_rfl, fun W' hS => by go_simp⟩) qS3 ?_
    refine wpAnyD_one (i := 20) (by kernel_rfl) rfl (by kernel_rfl) ?_
    go_simp
    refine wpAnyD_one (i := 21) (by kernel_rfl) rfl (by kernel_rfl) ?_
    go_simp
    refine wpAnyD_done (by kernel_rfl) ?_ _
    go_wp2_with fail
    go_ret2
    exact ⟨by rw [hr.out, HF.out]; rfl, b2.trans (qS3.mono (by omega))⟩
  · have hfn : Hid (fnd l v = false) := Lib.hid (by unfold fnd; rw [hr.out, HN.out]; simp [hrn])
    obtain rfl : r = n := by omega
    have c1 := q1.one.1
    have hlf : decide ((r : Int) < (r : Int)) = false := by simp
    go_upto_region 2 with fail
    go_quiet (fail)
    go_wp2_with fail
    go_ret2
    exact ⟨by rw [hr.out, hfn.out]; rfl, below_drewN2 b2 _⟩
end Go.Proofs.YthooiobhlbnaoaaGreat
namespace Go.Proofs.YthooiobhlbnaoaaGreat
open Go.RowKit
set_option linter.unusedVariables false

theorem partsG_args (a : Gx) : a.parts = partsL a.args + 1 := by cases a; exact partsG_mk _ _ _ _
theorem sameL_ne {l m : List Gx} (h : l ≠ m) : sameL l m = false := by
  cases hs : sameL l m with
  | false => rfl
  | true => exact absurd ((sameL_iff l m).1 hs) h
theorem sameG_ne {l m : Gx} (h : l ≠ m) : sameG l m = false := by
  cases hs : sameG l m with
  | false => rfl
  | true => exact absurd ((sameG_iff l m).1 hs) h
theorem sameL_len {l m : List Gx} (h : l.length ≠ m.length) : sameL l m = false := sameL_ne fun e => h (by rw [e])
theorem sameL_at {l m : List Gx} {k : Nat} (h : sameG (l[k]?.getD default) (m[k]?.getD default) = false) : sameL l m = false := sameL_ne fun e => by
  rw [e, (sameG_iff _ _).2 rfl] at h; cases h
theorem sameL_all {l m : List Gx} (hl : l.length = m.length) (h : ∀ i, i < l.length → sameG (l[i]?.getD default) (m[i]?.getD default) = true) : sameL l m = true := by
  rw [sameL_iff]
  refine List.ext_getElem hl fun i h1 h2 => ?_
  have := (sameG_iff _ _).1 (h i h1)
  rwa [List.getElem?_eq_getElem h1, List.getElem?_eq_getElem h2] at this

set_option maxRecDepth 100000 in
set_option maxHeartbeats 2000000 in
theorem eqExprs_any (K : Nat) (u v : Value) (l m : List Gx) (g h : Nat → Xv) (w : World) (hu : RowsV 9 (fun i j => (g i).cell j) K w u l.length) (hv : RowsV 9 (fun i j => (h i).cell j) K w v m.length) (hK : K ≤ w.heap.size)
    (hc : ∀ i, i < l.length → i < m.length → ∀ W, Below w.heap.size w W → Calls Tryz.prog 96 #[(g i).agg, (h i).agg] W fun e w' => e = .returned (.bool (sameG (l[i]?.getD default) (m[i]?.getD default))) ∧ Below W.heap.size W w') :
    Calls Tryz.prog 124 #[u, v, .func (.func 96) #[] #[]] w fun e w' => e = .returned (.bool (sameL l m)) ∧ Below w.heap.size w w' := by
  obtain ⟨ua, ucap, rfl, hu1, hu2⟩ := id hu.form
  obtain ⟨va, vcap, rfl, hv1, hv2⟩ := id hv.form
  unfold maxLen at hv2 hu2
  by_cases hne : l.length = m.length
  case neg =>
    have HE := Lib.hid (sameL_len hne)
    have hne2 : ¬ ((l.length : Int) = (m.length : Int)) := by omega
    clear hc
    go_enter Tryz.func124, Tryz.ntmps124
    go_wp2_with fail
    go_ret
    exact ⟨by rw [HE.out]; rfl, Below.refl _ _⟩
  case pos =>
  obtain ⟨q, hq⟩ : ∃ q, l.length = q := ⟨_, rfl⟩
  have hq' : m.length = q := by rw [← hne, hq]
  rw [hq] at hu hu1 ⊢
  rw [hq'] at hv hv1 ⊢
  have HC : Hid (∀ i, i < q → ∀ W, Below w.heap.size w W → Calls Tryz.prog 96 #[(g i).agg, (h i).agg] W fun e w' => e = .returned (.bool (sameG (l[i]?.getD default) (m[i]?.getD default))) ∧ Below W.heap.size W w') := Lib.hid fun i hi => hc i (by omega) (by omega)
  have HU := Lib.hid hu
  have HV := Lib.hid hv
  have HM := Lib.hid hq
  have HL := Lib.hid hq'
  clear hq hq' hne hc hu hv
  have hqq : ((q : Int) != (q : Int)) = false := by simp
  go_enter Tryz.func124, Tryz.ntmps124
  go_wp2_with fail
  go_loopw [17] (fun i wr => ∃ k : Nat, k ≤ q ∧ i = .int .i64 k ∧ Below w.heap.size w wr ∧ Hid (∀ i, i < k → sameG (l[i]?.getD default) (m[i]?.getD default) = true)) (fun i _ => q - (intOf i).toNat)
  case atStart => exact ⟨0, Nat.zero_le _, rfl, Below.refl _ _, Lib.hid fun i hi => absurd hi (Nat.not_lt_zero i)⟩
  case round =>
    obtain ⟨k, hk, rfl, hbr, HALL⟩ := hrel
    by_cases hlt : k < q
    · obtain ⟨b, o, cap, he, _, _, hbK, hc⟩ := HU.out.pos (by omega)
      simp only [Value.slice.injEq, true_and] at he
      obtain ⟨rfl, rfl⟩ := he
      obtain ⟨b', o', cap', he, _, _, hbK', hc'⟩ := HV.out.pos (by omega)
      simp only [Value.slice.injEq, true_and] at he
      obtain ⟨rfl, rfl⟩ := he
      obtain ⟨c0, c1, c2, c3, c4, c5, c6, c7, c8⟩ := ex_cells (cells_below hbr (by omega) hc) hlt
      obtain ⟨f0, f1, f2, f3, f4, f5, f6, f7, f8⟩ := ex_cells (cells_below hbr (by omega) hc') hlt
      have hcall := HC.out k hlt
      obtain ⟨r, hr⟩ : ∃ r, sameG (l[k]?.getD default) (m[k]?.getD default) = r := ⟨_, rfl⟩
      rw [hr] at hcall
      obtain ⟨y, hy⟩ : ∃ y, g k = y := ⟨_, rfl⟩
      obtain ⟨z, hz⟩ : ∃ z, h k = z := ⟨_, rfl⟩
      rw [hy] at c0 c1 c2 c3 c4 c5 c6 c7 c8 hcall
      rw [hz] at f0 f1 f2 f3 f4 f5 f6 f7 f8 hcall
      have hsr := hbr.size
      have hbl : b < wr.heap.size := by omega
      have hbl' : b' < wr.heap.size := by omega
      have hbW : Below w.heap.size w ((wr.alloc (.cells y.cells 32)).alloc (.cells z.cells 32)) := (hbr.alloc (by omega) _).alloc (by simp; omega) _
      have hcall2 := hcall _ hbW
      have HR := Lib.hid hr
      have HBW := Lib.hid hbW
      clear hy hz hc hc' hcall hr hbW
      go_wp2_with fail
      refine hcall2.mono ?_
      rintro e w2 ⟨rfl, hb2⟩
      clear hcall2 c0 c1 c2 c3 c4 c5 c6 c7 c8 f0 f1 f2 f3 f4 f5 f6 f7 f8
      have hb3 : Below w.heap.size w w2 := HBW.out.trans (hb2.mono (by simp; omega))
      cases r with
      | false =>
        have HE := Lib.hid (sameL_at HR.out)
        go_wp2_with fail
        go_ret
        exact ⟨by rw [HE.out]; rfl, hb3⟩
      | true =>
        go_wp2_with fail
        refine ⟨⟨k + 1, by omega, by go_num, hb3, Lib.hid fun i hi => ?_⟩, by simp [intOf]; omega⟩
        by_cases hik : i = k
        · rw [hik]; exact HR.out
        · exact HALL.out i (by omega)
    · obtain rfl : k = q := by omega
      have HE := Lib.hid (sameL_all (by rw [HM.out, HL.out]) (fun i hi => HALL.out i (by have := HM.out; omega)))
      go_wp2_with fail
      go_ret
      exact ⟨by rw [HE.out]; rfl, hbr⟩

theorem sameG_mk (a b : Gx) : sameG a b = (a.op == b.op && a.nm == b.nm && a.v == b.v && sameL a.args b.args) := by
  cases a; cases b; rw [sameG]; rfl

set_option maxRecDepth 100000 in
set_option maxHeartbeats 4000000 in
theorem gsame_at (m : Nat) : ∀ (K : Nat) (a b : Gx) (x y : Xv) (w : World), a.parts ≤ m → ExG K w a x → ExG K w b y → K ≤ w.heap.size →
    Calls Tryz.prog 96 #[x.agg, y.agg] w fun e w' => e = .returned (.bool (sameG a b)) ∧ Below w.heap.size w w' := by
  induction m with
  | zero => intro K a b x y w hm; cases a; rw [partsG_mk] at hm; omega
  | succ m ih =>
    intro K a b x y w hm ha hb hK
    obtain ⟨a1, a2, a3, av, g, ag, ags⟩ := ha.open
    obtain ⟨b1, b2, b3, bv, h, bg, bgs⟩ := hb.open
    have hbW : Below w.heap.size w ((w.alloc (.cells x.cells 32)).alloc (.cells y.cells 32)) := ((Below.refl _ _).alloc (Nat.le_refl _) _).alloc (by simp) _
    have hc1 := tlsame_any w.heap.size a.v b.v x.vv y.vv _ (av.below hbW hK hK) (bv.below hbW hK hK) (by simp; omega)
    have HC2 : Hid (∀ W, Below w.heap.size w W → Calls Tryz.prog 124 #[x.s8.val, y.s8.val, .func (.func 96) #[] #[]] W fun e w' => e = .returned (.bool (sameL a.args b.args)) ∧ Below W.heap.size W w') := Lib.hid fun W hW => by
      have hs := hW.size
      refine eqExprs_any W.heap.size _ _ _ _ g h W (ag.below hW hK (by omega)) (bg.below hW hK (by omega)) (Nat.le_refl _) fun i hi hi' W' hW' => ?_
      have hs' := hW'.size
      have hWW : Below w.heap.size w W' := hW.trans (hW'.mono hs)
      have e1 : a.args[i]? = some (a.args[i]?.getD default) := by rw [List.getElem?_eq_getElem hi]; rfl
      have e2 : b.args[i]? = some (b.args[i]?.getD default) := by rw [List.getElem?_eq_getElem hi']; rfl
      have hp : (a.args[i]?.getD default).parts ≤ m := by
        have := partsG_arg (List.mem_of_getElem? e1)
        rw [partsG_args] at hm; omega
      exact ih W'.heap.size _ _ _ _ W' hp ((ags i _ e1).below hWW hK (by omega)) ((bgs i _ e2).below hWW hK (by omega)) (Nat.le_refl _)
    have hs : sameG a b = (x.op == y.op && x.nm == y.nm && a.v == b.v && sameL a.args b.args) := by rw [sameG_mk, a1, a2, b1, b2]
    obtain ⟨r, hr⟩ : ∃ r, sameG a b = r := ⟨_, rfl⟩
    obtain ⟨r3, hr3⟩ : ∃ r, (a.v == b.v) = r := ⟨_, rfl⟩
    obtain ⟨r4, hr4⟩ : ∃ r, sameL a.args b.args = r := ⟨_, rfl⟩
    rw [hr, hr3, hr4] at hs
    rw [hr3] at hc1
    rw [hr4] at HC2
    rw [hr]
    have HS := Lib.hid hs
    have HBW := Lib.hid hbW
    have hxl : x.nm.length ≤ maxLen := by rw [a2]; exact a3
    have hyl : y.nm.length ≤ maxLen := by rw [b2]; exact b3
    obtain ⟨c1, hc1'⟩ : ∃ c, (x.op == y.op) = c := ⟨_, rfl⟩
    obtain ⟨c2, hc2'⟩ : ∃ c, (x.nm == y.nm) = c := ⟨_, rfl⟩
    rw [hc1', hc2'] at HS
    clear hs hr hr3 hr4 ha hb ih a1 a2 a3 av ag ags b1 b2 b3 bv bg bgs hm hbW
    obtain ⟨xop, xnm, xkd, xb3, ⟨x4, x4n, x4m⟩, xb5, ⟨x6, x6n, x6m⟩, xi7, ⟨x8, x8n, x8m⟩⟩ := x
    obtain ⟨yop, ynm, ykd, yb3, ⟨y4, y4n, y4m⟩, yb5, ⟨y6, y6n, y6m⟩, yi7, ⟨y8, y8n, y8m⟩⟩ := y
    dsimp only at hc1' hc2' hxl hyl
    cases c1 with
    | false =>
      go_enter Tryz.func96, Tryz.ntmps96
      go_wp2_with fail
      go_ret
      exact ⟨by rw [HS.out]; rfl, HBW.out⟩
    | true =>
      cases c2 with
      | false =>
        go_enter Tryz.func96, Tryz.ntmps96
        go_wp2_with fail
        go_ret
        exact ⟨by rw [HS.out]; rfl, HBW.out⟩
      | true =>
        have q1 : Blk ((w.alloc (.cells (⟨xop, xnm, xkd, xb3, ⟨x4, x4n, x4m⟩, xb5, ⟨x6, x6n, x6m⟩, xi7, ⟨x8, x8n, x8m⟩⟩ : Xv).cells 32)).alloc (.cells (⟨yop, ynm, ykd, yb3, ⟨y4, y4n, y4m⟩, yb5, ⟨y6, y6n, y6m⟩, yi7, ⟨y8, y8n, y8m⟩⟩ : Xv).cells 32)) w.heap.size _ 32 := (Blk.new w _ _).alloc _
        have q2 := Blk.new (w.alloc (.cells (⟨xop, xnm, xkd, xb3, ⟨x4, x4n, x4m⟩, xb5, ⟨x6, x6n, x6m⟩, xi7, ⟨x8, x8n, x8m⟩⟩ : Xv).cells 32)) (⟨yop, ynm, ykd, yb3, ⟨y4, y4n, y4m⟩, yb5, ⟨y6, y6n, y6m⟩, yi7, ⟨y8, y8n, y8m⟩⟩ : Xv).cells 32
        rw [World.size_alloc] at q2
        have HQ1 := Lib.hid q1
        have HQ2 := Lib.hid q2
        clear q1 q2
        go_enter Tryz.func96, Tryz.ntmps96
        go_wp2_with fail
        refine hc1.mono ?_
        rintro e w2 ⟨rfl, hb2⟩
        have hb3 : Below w.heap.size w w2 := HBW.out.trans (hb2.mono (by simp; omega))
        cases r3 with
        | false =>
          go_wp2_with fail
          go_ret
          exact ⟨by rw [HS.out]; rfl, hb3⟩
        | true =>
          have d8 := ((HQ1.out.below hb2 (by simp; omega)).nine).2.2.2.2.2.2.2.2
          have f8 := ((HQ2.out.below hb2 (by simp)).nine).2.2.2.2.2.2.2.2
          have hcall := HC2.out w2 hb3
          go_wp2_with fail
          refine hcall.mono ?_
          rintro e w3 ⟨rfl, hb4⟩
          go_wp2_with fail
          go_ret
          exact ⟨by rw [HS.out]; rfl, hb3.trans (hb4.mono hb3.size)⟩
theorem gsame_any (K : Nat) (a b : Gx) (x y : Xv) (w : World) (ha : ExG K w a x) (hb : ExG K w b y) (hK : K ≤ w.heap.size) :
    Calls Tryz.prog 96 #[x.agg, y.agg] w fun e w' => e = .returned (.bool (sameG a b)) ∧ Below w.heap.size w w' := gsame_at a.parts K a b x y w (Nat.le_refl _) ha hb hK
end Go.Proofs.YthooiobhlbnaoaaGreat
namespace Go.Proofs.YthooiobhlbnaoaaGreat
open Go.RowKit
set_option linter.unusedVariables false

/-- The eleven cells of a scale. -/
structure Sv where
  x : Xv
  kd : Int
  c : Sl
def Sv.cell (s : Sv) : Nat → Value
  | 0 => s.x.cell 0
  | 1 => s.x.cell 1
  | 2 => s.x.cell 2
  | 3 => s.x.cell 3
  | 4 => s.x.cell 4
  | 5 => s.x.cell 5
  | 6 => s.x.cell 6
  | 7 => s.x.cell 7
  | 8 => s.x.cell 8
  | 9 => .int .u8 s.kd
  | _ => s.c.val
abbrev Sv.cells (s : Sv) : Array Value := #[.int .u8 s.x.op, S s.x.nm, .int .u8 s.x.kd, .bool s.x.b3, .slice s.x.s4.a s.x.s4.n s.x.s4.m, .bool s.x.b5, .slice s.x.s6.a s.x.s6.n s.x.s6.m, .int .i64 s.x.i7, .slice s.x.s8.a s.x.s8.n s.x.s8.m, .int .u8 s.kd, .slice s.c.a s.c.n s.c.m]
abbrev Sv.agg (s : Sv) : Value := .agg s.cells
/-- The cells are those of a scale. -/
structure ScX (K : Nat) (w : World) (s : Sc) (y : Sv) : Prop where
  e : ExG K w s.e y.x
  kd : y.kd = s.kd
  cuts : CutsX K w y.c.val s.cuts
theorem ScX.below {K K' B : Nat} {w w' : World} {s : Sc} {y : Sv} (h : ScX K w s y) (hb : Below B w w') (hB : K ≤ B) (hK : K ≤ K') : ScX K' w' s y := ⟨h.e.below hb hB hK, h.kd, h.cuts.below hb hB hK⟩
/-- v reads as the scales l. -/
def ScsX (K : Nat) (w : World) (v : Value) (l : List Sc) : Prop := ∃ g : Nat → Sv, RowsV 11 (fun i j => (g i).cell j) K w v l.length ∧ ∀ i, i < l.length → ScX K w (l[i]?.getD default) (g i)
theorem ScsX.below {K K' B : Nat} {w w' : World} {v : Value} {l : List Sc} (h : ScsX K w v l) (hb : Below B w w') (hB : K ≤ B) (hK : K ≤ K') : ScsX K' w' v l := by
  obtain ⟨g, h1, h2⟩ := h
  exact ⟨g, h1.below hb hB hK, fun i hi => (h2 i hi).below hb hB hK⟩
theorem ScsX.form {K : Nat} {w : World} {v : Value} {l : List Sc} (h : ScsX K w v l) : ∃ a cap, v = .slice a l.length cap ∧ l.length ≤ cap ∧ cap ≤ maxLen := by
  obtain ⟨g, h1, h2⟩ := h; exact h1.form
theorem sc_cells {g : Nat → Sv} {w : World} {b o k n : Nat} (hc : ∀ i, i < n → ∀ j, j < 11 → w.cell? ⟨b, o + (i * 11 + j), none⟩ = some ((g i).cell j)) (hk : k < n) :
    w.cell? ⟨b, o + k * 11, none⟩ = some (.int .u8 (g k).x.op) ∧ w.cell? ⟨b, o + k * 11 + 1, none⟩ = some (S (g k).x.nm) ∧ w.cell? ⟨b, o + k * 11 + 2, none⟩ = some (.int .u8 (g k).x.kd) ∧
    w.cell? ⟨b, o + k * 11 + 3, none⟩ = some (.bool (g k).x.b3) ∧ w.cell? ⟨b, o + k * 11 + 4, none⟩ = some (g k).x.s4.val ∧ w.cell? ⟨b, o + k * 11 + 5, none⟩ = some (.bool (g k).x.b5) ∧
    w.cell? ⟨b, o + k * 11 + 6, none⟩ = some (g k).x.s6.val ∧ w.cell? ⟨b, o + k * 11 + 7, none⟩ = some (.int .i64 (g k).x.i7) ∧ w.cell? ⟨b, o + k * 11 + 8, none⟩ = some (g k).x.s8.val ∧
    w.cell? ⟨b, o + k * 11 + 9, none⟩ = some (.int .u8 (g k).kd) ∧ w.cell? ⟨b, o + k * 11 + 10, none⟩ = some (g k).c.val := by
  have h := hc k hk
  exact ⟨h 0 (by omega), h 1 (by omega), h 2 (by omega), h 3 (by omega), h 4 (by omega), h 5 (by omega), h 6 (by omega), h 7 (by omega), h 8 (by omega), h 9 (by omega), h 10 (by omega)⟩
theorem Blk.eleven {w : World} {b t : Nat} {x0 x1 x2 x3 x4 x5 x6 x7 x8 x9 x10 : Value} (h : Blk w b #[x0, x1, x2, x3, x4, x5, x6, x7, x8, x9, x10] t) : w.cell? ⟨b, 0, none⟩ = some x0 ∧ w.cell? ⟨b, 1, none⟩ = some x1 ∧ w.cell? ⟨b, 2, none⟩ = some x2 ∧
    w.cell? ⟨b, 3, none⟩ = some x3 ∧ w.cell? ⟨b, 4, none⟩ = some x4 ∧ w.cell? ⟨b, 5, none⟩ = some x5 ∧ w.cell? ⟨b, 6, none⟩ = some x6 ∧ w.cell? ⟨b, 7, none⟩ = some x7 ∧ w.cell? ⟨b, 8, none⟩ = some x8 ∧ w.cell? ⟨b, 9, none⟩ = some x9 ∧ w.cell? ⟨b, 10, none⟩ = some x10 :=
  ⟨h.at rfl, h.at rfl, h.at rfl, h.at rfl, h.at rfl, h.at rfl, h.at rfl, h.at rfl, h.at rfl, h.at rfl, h.at rfl⟩

set_option maxRecDepth 100000 in
set_option maxHeartbeats 4000000 in
theorem belongs_any (K : Nat) (t : Tq) (s : Sc) (x : Tv) (y : Sv) (w : World) (ht : TqX K w t x) (hs : ScX K w s y) (hK : K ≤ w.heap.size) :
    Calls Tryz.prog 51 #[x.agg, y.agg] w fun e w' => e = .returned (.bool (t.belongs s)) ∧ Below w.heap.size w w' := by
  have hbW : Below w.heap.size w ((w.alloc (.cells x.cells 104)).alloc (.cells y.cells 48)) := ((Below.refl _ _).alloc (Nat.le_refl _) _).alloc (by simp) _
  have hc := gsame_any w.heap.size t.sub s.e x.sub y.x _ (ht.sub.below hbW hK hK) (hs.e.below hbW hK hK) (by simp; omega)
  have hr : t.belongs s = (x.kd == y.kd && sameG t.sub s.e) := by unfold Tq.belongs; rw [ht.kd, hs.kd]
  obtain ⟨r, hr1⟩ : ∃ r, t.belongs s = r := ⟨_, rfl⟩
  obtain ⟨r2, hr2⟩ : ∃ r, sameG t.sub s.e = r := ⟨_, rfl⟩
  obtain ⟨c1, hc1⟩ : ∃ c, (x.kd == y.kd) = c := ⟨_, rfl⟩
  rw [hr1, hr2, hc1] at hr
  rw [hr2] at hc
  rw [hr1]
  have HR := Lib.hid hr
  obtain ⟨vs1, vm1, hv1, _⟩ := ht.cut.n.form
  obtain ⟨vs2, vm2, hv2, _⟩ := ht.cut.d.form
  clear hr hr1 hr2 ht hs
  obtain ⟨⟨xop, xnm, xkd, xb3, ⟨x4, x4n, x4m⟩, xb5, ⟨x6, x6n, x6m⟩, xi7, ⟨x8, x8n, x8m⟩⟩, tk, ⟨vk, vb1, vs1, vb2, vs2, vi⟩, top, tsn⟩ := x
  obtain ⟨⟨yop, ynm, ykd, yb3, ⟨y4, y4n, y4m⟩, yb5, ⟨y6, y6n, y6m⟩, yi7, ⟨y8, y8n, y8m⟩⟩, sk, ⟨ca, cn, cm⟩⟩ := y
  dsimp only at hc1 hv1 hv2
  subst hv1 hv2
  cases c1 with
  | false =>
    clear hc
    go_enter Tryz.func51, Tryz.ntmps51
    go_wp2_with fail
    go_ret
    exact ⟨by rw [HR.out]; rfl, hbW⟩
  | true =>
    go_enter Tryz.func51, Tryz.ntmps51
    go_wp2_with fail
    refine hc.mono ?_
    rintro e w2 ⟨rfl, hb2⟩
    go_wp2_with fail
    go_ret
    exact ⟨by rw [HR.out]; rfl, hbW.trans (hb2.mono (by simp; omega))⟩

def idxS (l : List Sc) (t : Tq) : Int := if l.findIdx t.belongs < l.length then (l.findIdx t.belongs : Int) else -1
theorem idxS_at {l : List Sc} {t : Tq} {k : Nat} (hk : k < l.length) (h0 : ∀ i, i < k → t.belongs (l[i]?.getD default) = false) (h : t.belongs (l[k]?.getD default) = true) : idxS l t = k := by
  have : l.findIdx t.belongs = k := by
    rw [List.findIdx_eq hk]
    refine ⟨by rw [List.getElem?_eq_getElem hk] at h; exact h, fun j hj => ?_⟩
    have := h0 j hj
    rwa [List.getElem?_eq_getElem (by omega)] at this
  unfold idxS; rw [this, if_pos hk]
theorem idxS_none {l : List Sc} {t : Tq} (h0 : ∀ i, i < l.length → t.belongs (l[i]?.getD default) = false) : idxS l t = -1 := by
  have : l.findIdx t.belongs = l.length := by
    rw [List.findIdx_eq_length]
    intro x hx
    obtain ⟨j, hj, rfl⟩ := List.mem_iff_getElem.1 hx
    have := h0 j hj
    rwa [List.getElem?_eq_getElem hj] at this
  unfold idxS; rw [this, if_neg (Nat.lt_irrefl _)]

set_option maxRecDepth 100000 in
set_option maxHeartbeats 4000000 in
theorem idxScale_any (K : Nat) (t : Tq) (x : Tv) (v : Value) (l : List Sc) (w : World) (ht : TqX K w t x) (hv : ScsX K w v l) (hK : K ≤ w.heap.size) :
    Calls Tryz.prog 50 #[v, .func (.func 51) #[x.agg] #[]] w fun e w' => e = .returned (.int .i64 (idxS l t)) ∧ Below w.heap.size w w' := by
  obtain ⟨g, hg, hgs⟩ := hv
  obtain ⟨va, vcap, rfl, hv1, hv2⟩ := id hg.form
  unfold maxLen at hv2
  have HC : Hid (∀ i, i < l.length → ∀ W, Below w.heap.size w W → Calls Tryz.prog 51 #[x.agg, (g i).agg] W fun e w' => e = .returned (.bool (t.belongs (l[i]?.getD default))) ∧ Below W.heap.size W w') := Lib.hid fun i hi W hW => by
    have := hW.size
    exact belongs_any W.heap.size t _ x (g i) W (ht.below hW hK (by omega)) ((hgs i hi).below hW hK (by omega)) (Nat.le_refl _)
  obtain ⟨q, hq⟩ : ∃ q, l.length = q := ⟨_, rfl⟩
  rw [hq] at hg hv1 HC ⊢
  have HG := Lib.hid hg
  have HQ := Lib.hid hq
  obtain ⟨X, hX⟩ : ∃ X, x.agg = X := ⟨_, rfl⟩
  rw [hX] at HC ⊢
  clear hq hg hgs ht hX
  go_enter Tryz.func50, Tryz.ntmps50
  go_wp2_with fail
  go_loopw [8] (fun i wr => ∃ k : Nat, k ≤ q ∧ i = .int .i64 k ∧ Below w.heap.size w wr ∧ Hid (∀ i, i < k → t.belongs (l[i]?.getD default) = false)) (fun i _ => q - (intOf i).toNat)
  case atStart => exact ⟨0, Nat.zero_le _, rfl, Below.refl _ _, Lib.hid fun i hi => absurd hi (Nat.not_lt_zero i)⟩
  case round =>
    obtain ⟨k, hk, rfl, hbr, HALL⟩ := hrel
    by_cases hlt : k < q
    · obtain ⟨b, o, cap, he, _, _, hbK, hc⟩ := HG.out.pos (by omega)
      simp only [Value.slice.injEq, true_and] at he
      obtain ⟨rfl, rfl⟩ := he
      obtain ⟨c0, c1, c2, c3, c4, c5, c6, c7, c8, c9, c10⟩ := sc_cells (cells_below hbr (by omega) hc) hlt
      have hcall := HC.out k hlt wr hbr
      obtain ⟨r, hr⟩ : ∃ r, t.belongs (l[k]?.getD default) = r := ⟨_, rfl⟩
      rw [hr] at hcall
      obtain ⟨y, hy⟩ : ∃ y, g k = y := ⟨_, rfl⟩
      rw [hy] at c0 c1 c2 c3 c4 c5 c6 c7 c8 c9 c10 hcall
      have hsr := hbr.size
      have hbl : b < wr.heap.size := by omega
      have HR := Lib.hid hr
      clear hy hc hr
      go_wp2_with fail
      refine hcall.mono ?_
      rintro e w2 ⟨rfl, hb2⟩
      clear hcall c0 c1 c2 c3 c4 c5 c6 c7 c8 c9 c10
      have hb3 : Below w.heap.size w w2 := hbr.trans (hb2.mono hsr)
      cases r with
      | true =>
        have HE := Lib.hid (idxS_at (by rw [HQ.out]; exact hlt) HALL.out HR.out)
        go_wp2_with fail
        go_ret
        exact ⟨by rw [HE.out]; rfl, hb3⟩
      | false =>
        go_wp2_with fail
        refine ⟨⟨k + 1, by omega, by go_num, hb3, Lib.hid fun i hi => ?_⟩, by simp [intOf]; omega⟩
        by_cases hik : i = k
        · rw [hik]; exact HR.out
        · exact HALL.out i (by omega)
    · obtain rfl : k = q := by omega
      have HE := Lib.hid (idxS_none (fun i hi => HALL.out i (by have := HQ.out; omega)))
      go_wp2_with fail
      go_ret
      exact ⟨by rw [HE.out]; rfl, hbr⟩
end Go.Proofs.YthooiobhlbnaoaaGreat
namespace Go.Proofs.YthooiobhlbnaoaaGreat
open Go.RowKit
set_option linter.unusedVariables false

def tq0 (x : Xv) : Tv := ⟨x, 0, vv0, 0, false⟩
theorem tq0_is {K : Nat} {w : World} {e : Gx} {x : Xv} (h : ExG K w e x) : TqX K w ⟨e, 0, v0, 0, false⟩ (tq0 x) := ⟨h, rfl, vv0_is _ _, rfl, rfl⟩

theorem test_blk (w : World) (x : Xv) : Blk ((w.alloc (.cells x.cells 32)).alloc (.cells (tq0 x).cells 104)) (w.heap.size + 1) (tq0 x).cells 104 := by
  have := Blk.new (w.alloc (.cells x.cells 32)) (tq0 x).cells 104
  rwa [World.size_alloc] at this

set_option maxRecDepth 100000 in
set_option maxHeartbeats 4000000 in
/-- An expression that is no comparison of two. -/
theorem testOf_none (K : Nat) (e : Gx) (x : Xv) (w : World) (h : ExG K w e x) (hK : K ≤ w.heap.size) (hop : ¬ ((e.op = 13 ∨ e.op = 14) ∧ e.args.length = 2)) :
    Calls Tryz.prog 80 #[x.agg] w fun en w' => ∃ y : Tv, en = .returned y.agg ∧ TqX K w' (testOf e) y ∧ Below w.heap.size w w' := by
  have HX := Lib.hid h
  have hso : e.op = x.op := h.open.1.symm
  obtain ⟨h1, h2, h3, hv, g, hr, hgr⟩ := h.open
  have b1 : Below w.heap.size w (w.alloc (.cells x.cells 32)) := (Below.refl _ _).alloc (Nat.le_refl _) _
  obtain ⟨sa, scap, hse, hs1, hs2⟩ := hr.form
  have ht : testOf e = ⟨e, 0, v0, 0, false⟩ := by
    unfold testOf
    rw [if_neg]
    simp only [Bool.and_eq_true, Bool.or_eq_true, beq_iff_eq]
    exact hop
  rw [ht]
  have fin : ∀ w', Below w.heap.size w w' → TqX K w' ⟨e, 0, v0, 0, false⟩ (tq0 x) := fun w' hb => tq0_is (HX.out.below hb hK (Nat.le_refl _))
  obtain ⟨op, nm, kd, b3, s4, b5, s6, i7, s8⟩ := x
  obtain ⟨a8, n8, m8⟩ := s8
  simp only [Sl.val, Value.slice.injEq] at hse hso
  obtain ⟨rfl, rfl, rfl⟩ := hse
  obtain ⟨n, hn⟩ : ∃ n, e.args.length = n := ⟨_, rfl⟩
  rw [hso, hn] at hop
  rw [hn] at b1 fin
  clear ht hgr h h1 h2 h3 hv hr hso
  simp only [hn]
  clear hn
  have hcase : (op = 13 ∨ op = 14) ∧ ((n : Int) != 2) = true ∨ ((op != 13) = true ∧ (op != 14) = true) := by
    by_cases e13 : op = 13
    · refine .inl ⟨.inl e13, ?_⟩
      have : ¬ n = 2 := fun e => hop ⟨.inl e13, e⟩
      simp; omega
    · by_cases e14 : op = 14
      · refine .inl ⟨.inr e14, ?_⟩
        have : ¬ n = 2 := fun e => hop ⟨.inr e14, e⟩
        simp; omega
      · exact .inr ⟨by simp [e13], by simp [e14]⟩
  clear hop
  have h1c : ∀ y : Xv, ∀ u ∈ (tq0 y).cells, u.oneCell' = true := by intro y; simp [Value.oneCell', tq0]
  rcases hcase with ⟨rfl | rfl, hx⟩ | ⟨x13, x14⟩
  all_goals
    go_enter Tryz.func80, Tryz.ntmps80
    go_upto_region 2 with fail
    iterate 7 go_step
    refine wpList_store_new rfl 104 (.tmp 2) (.tmp 21) rfl (tq0 ⟨_, nm, kd, b3, s4, b5, s6, i7, ⟨a8, n, m8⟩⟩).cells _ infoTest rfl (h1c _) (w.heap.size + 1) (by simp) rfl rfl ?_
    go_wp2_with fail
    refine bodyPost_ret (results_blk rfl _ _ (w.heap.size + 1) _ _ (test_blk w _) rfl Tryz.underlying104 rfl infoTest) rfl ?_
    exact ⟨_, rfl, fin _ (b1.alloc (by simp) _), b1.alloc (by simp) _⟩
end Go.Proofs.YthooiobhlbnaoaaGreat
namespace Go.Proofs.YthooiobhlbnaoaaGreat
open Go.RowKit
set_option linter.unusedVariables false

def argAt (e : Gx) (k : Nat) : Gx := e.args[k]?.getD default
/-- What testOf hands back, if the first cut is the argument k. -/
def cutAt (e : Gx) (k : Nat) : Tq := ⟨argAt e (1 - k), (argAt e k).v.kd, (argAt e k).v, e.op, k == 0⟩
theorem testOf_zero {e : Gx} (ho : e.op = 13 ∨ e.op = 14) (hl : e.args.length = 2) (h : isCut (argAt e 0) (argAt e 1) = true) : testOf e = cutAt e 0 := by
  unfold testOf argAt at *
  rw [if_pos (by simp [ho, hl]), if_pos h]; rfl
theorem testOf_one {e : Gx} (ho : e.op = 13 ∨ e.op = 14) (hl : e.args.length = 2) (h0 : isCut (argAt e 0) (argAt e 1) = false) (h : isCut (argAt e 1) (argAt e 0) = true) : testOf e = cutAt e 1 := by
  unfold testOf argAt at *
  rw [if_pos (by simp [ho, hl]), if_neg (by rw [h0]; simp), if_pos h]; rfl
theorem testOf_not {e : Gx} (ho : e.op = 13 ∨ e.op = 14) (hl : e.args.length = 2) (h0 : isCut (argAt e 0) (argAt e 1) = false) (h : isCut (argAt e 1) (argAt e 0) = false) : testOf e = ⟨e, 0, v0, 0, false⟩ := by
  unfold testOf argAt at *
  rw [if_pos (by simp [ho, hl]), if_neg (by rw [h0]; simp), if_neg (by rw [h]; simp)]
theorem testOf_at {e : Gx} {k : Nat} (hk : k < 2) (ho : e.op = 13 ∨ e.op = 14) (hl : e.args.length = 2) (h0 : ∀ j, j < k → isCut (argAt e j) (argAt e (1 - j)) = false) (h : isCut (argAt e k) (argAt e (1 - k)) = true) : testOf e = cutAt e k := by
  match k, hk with
  | 0, _ => exact testOf_zero ho hl h
  | 1, _ => exact testOf_one ho hl (h0 0 (by omega)) h
theorem arg_some {e : Gx} {k : Nat} (hk : k < e.args.length) : e.args[k]? = some (argAt e k) := by unfold argAt; rw [List.getElem?_eq_getElem hk]; rfl

def xz : Xv := ⟨0, [], 0, false, ⟨none, 0, 0⟩, false, ⟨none, 0, 0⟩, 0, ⟨none, 0, 0⟩⟩
theorem cells_one (y : Tv) (h1 : y.cut.s1.oneCell' = true) (h2 : y.cut.s2.oneCell' = true) : ∀ u ∈ y.cells, u.oneCell' = true := by
  simp only [Tv.cells, List.mem_toArray, List.mem_cons, List.not_mem_nil, or_false]
  rintro u (rfl | rfl | rfl | rfl | rfl | rfl | rfl | rfl | rfl | rfl | rfl | rfl | rfl | rfl | rfl | rfl | rfl | rfl) <;> first | rfl | assumption

set_option maxRecDepth 100000 in
set_option maxHeartbeats 8000000 in
theorem testOf_two (K : Nat) (e : Gx) (x : Xv) (w : World) (h : ExG K w e x) (hg : e.good = true) (hK : K ≤ w.heap.size) (ho : e.op = 13 ∨ e.op = 14) (hl : e.args.length = 2) :
    Calls Tryz.prog 80 #[x.agg] w fun en w' => ∃ y : Tv, en = .returned y.agg ∧ TqX K w' (testOf e) y ∧ Below w.heap.size w w' := by
  have HX := Lib.hid h
  have hso : e.op = x.op := h.open.1.symm
  obtain ⟨h1, h2, h3, hv, g, hr, hgr⟩ := h.open
  rw [hl] at hr
  obtain ⟨cb, co, cap, he, hn2, hm, hbK, hc⟩ := hr.pos (by omega)
  have HA : Hid (∀ k, k < 2 → ExG K w (argAt e k) (g k) ∧ (argAt e k).good = true) := Lib.hid fun k hk => ⟨hgr k _ (arg_some (by omega)), good_args hg _ (List.mem_of_getElem? (arg_some (show k < e.args.length by omega)))⟩
  have HG := Lib.hid hg
  have HO := Lib.hid ho
  have HL := Lib.hid hl
  have HC := Lib.hid hc
  obtain ⟨op, nm, kd, b3, s4, b5, s6, i7, s8⟩ := x
  obtain ⟨a8, n8, m8⟩ := s8
  simp only [Sl.val, Value.slice.injEq] at he hso
  obtain ⟨rfl, rfl, rfl⟩ := he
  obtain ⟨x, hx⟩ : ∃ x : Xv, x = ⟨op, nm, kd, b3, s4, b5, s6, i7, ⟨some ⟨cb, co, none⟩, 2, m8⟩⟩ := ⟨_, rfl⟩
  rw [← hx] at HX ⊢
  have hop : op = 13 ∨ op = 14 := by rw [← hso]; exact ho
  have HOP : Hid (op = e.op) := Lib.hid hso.symm
  obtain ⟨W1, hW1⟩ : ∃ W1, (w.alloc (.cells x.cells 32)).alloc (.cells (tq0 xz).cells 104) = W1 := ⟨_, rfl⟩
  have b1 : Below w.heap.size w W1 := by rw [← hW1]; exact ((Below.refl _ _).alloc (Nat.le_refl _) _).alloc (by simp) _
  have q1 : Blk W1 w.heap.size x.cells 32 := by rw [← hW1]; exact (Blk.new w _ _).alloc _
  have q2 : Blk W1 (w.heap.size + 1) (tq0 xz).cells 104 := by
    rw [← hW1]
    have := Blk.new (w.alloc (.cells x.cells 32)) (tq0 xz).cells 104
    rwa [World.size_alloc] at this
  have s1 : W1.heap.size = w.heap.size + 2 := by rw [← hW1]; simp
  obtain ⟨B, hB⟩ : ∃ B, w.heap.size = B := ⟨_, rfl⟩
  have HB := Lib.hid hB
  have HW := Lib.hid hW1
  rw [hB] at hK b1 q1 q2 s1 ⊢
  rw [hx] at q1 HW ⊢
  clear hB hW1 h h1 h2 h3 hv hg ho hl hso hr hgr hc hn2
  unfold maxLen at hm
  obtain ⟨d0, d1, d2, d3, d4, d5, d6, d7, d8⟩ := q1.nine
  have hlen : ((2 : Int) != 2) = false := rfl
  dsimp only [Xv.cells, Xv.agg, Tv.cells, tq0, xz, vv0] at HW ⊢
  rcases hop with rfl | rfl
  all_goals
    go_enter Tryz.func80, Tryz.ntmps80
    go_upto_region 1 with fail
    simp only [HB.out]
    rw [HW.out]
    go_upto_region 3 with fail
    go_wp2_with fail
    clear d0 d1 d2 d3 d4 d5 d6 d7 d8
    go_loopw [25] (fun i wr => ∃ k : Nat, k ≤ 2 ∧ i = .int .i64 k ∧ Blk wr B x.cells 32 ∧ Blk wr (B + 1) (tq0 xz).cells 104 ∧ Below B w wr ∧ Hid (∀ j, j < k → isCut (argAt e j) (argAt e (1 - j)) = false)) (fun i _ => 2 - (intOf i).toNat)
    case atStart => exact ⟨0, Nat.zero_le _, rfl, by rw [hx]; exact q1, q2, b1, Lib.hid fun j hj => absurd hj (Nat.not_lt_zero j)⟩
    case round =>
      obtain ⟨k, hk, rfl, p1, p2, hbr, HF⟩ := hrel
      rw [hx] at p1
      obtain ⟨d0, d1, d2, d3, d4, d5, d6, d7, d8⟩ := p1.nine
      have hsr := hbr.size
      by_cases hlt : k < 2
      · obtain ⟨k', hk'⟩ : ∃ k' : Nat, k' = 1 - k := ⟨_, rfl⟩
        have hk2 : k' < 2 := by omega
        have hsub : (1 : Int) - (k : Int) = (k' : Int) := by omega
        obtain ⟨c0, c1, c2, c3, c4, c5, c6, c7, c8⟩ := ex_cells (cells_below hbr (by omega) HC.out) hlt
        obtain ⟨f0, f1, f2, f3, f4, f5, f6, f7, f8⟩ := ex_cells (cells_below hbr (by omega) HC.out) hk2
        have HK := HA.out k hlt
        have HK' := HA.out k' hk2
        obtain ⟨y, hy⟩ : ∃ y, g k = y := ⟨_, rfl⟩
        obtain ⟨z, hz⟩ : ∃ z, g k' = z := ⟨_, rfl⟩
        rw [hy] at c0 c1 c2 c3 c4 c5 c6 c7 c8 HK
        rw [hz] at f0 f1 f2 f3 f4 f5 f6 f7 f8 HK'
        have hcbr : cb < wr.heap.size := by have := HB.out; omega
        have hBr : B < wr.heap.size := p1.lt
        have HK1 := Lib.hid hk'
        have HV := HK.1.open.2.2.2.1
        have hbW : Below B w ((wr.alloc (.cells y.cells 32)).alloc (.cells z.cells 32)) := (hbr.alloc (by have := HB.out; omega) _).alloc (by simp; have := HB.out; omega) _
        have hval := tlvalid_any B (argAt e k).v y.vv ((wr.alloc (.cells y.cells 32)).alloc (.cells z.cells 32)) (HV.below hbW hK hK) (by simp; have := HB.out; omega) (good_v HK.2)
        obtain ⟨okv, hokv⟩ : ∃ okv, (argAt e k).v.ok = okv := ⟨_, rfl⟩
        rw [hokv] at hval
        have HCUT : Hid (isCut (argAt e k) (argAt e (1 - k)) = (y.op == 1 && z.op != 1 && y.kd != 1 && okv)) := Lib.hid (by
          unfold isCut
          rw [← hk', HK.1.open.1, HK'.1.open.1, hokv, show y.kd = (argAt e k).v.kd from HV.kd])
        have HN : Hid (isCut (argAt e k) (argAt e (1 - k)) = false → ∀ W', Below wr.heap.size wr W' → ∃ m : Nat, m ≤ 2 ∧ Value.int .i64 ((k : Int) + 1) = .int .i64 m ∧ Blk W' B x.cells 32 ∧ Blk W' (B + 1) (tq0 xz).cells 104 ∧ Below B w W' ∧ Hid (∀ j, j < m → isCut (argAt e j) (argAt e (1 - j)) = false)) := Lib.hid fun hf W' hb' => by
          refine ⟨k + 1, by omega, by simp, by rw [hx]; exact p1.below hb' p1.lt, p2.below hb' p2.lt, hbr.trans (hb'.mono (by have := HB.out; omega)), Lib.hid fun j hj => ?_⟩
          by_cases hjk : j = k
          · rw [hjk]; exact hf
          · exact HF.out j (by omega)
        have HT : Hid (isCut (argAt e k) (argAt e (1 - k)) = true → testOf e = cutAt e k) := Lib.hid fun h => testOf_at hlt HO.out HL.out HF.out h
        obtain ⟨sn, hsn⟩ : ∃ sn, (k == 0) = sn := ⟨_, rfl⟩
        have hsn' : ((k : Int) == 0) = sn := by rw [← hsn, Bool.eq_iff_iff]; simp
        have HSN := Lib.hid hsn
        have hbn : Below wr.heap.size wr ((wr.alloc (.cells y.cells 32)).alloc (.cells z.cells 32)) := ((Below.refl _ _).alloc (Nat.le_refl _) _).alloc (by simp) _
        have q5 : Blk ((wr.alloc (.cells y.cells 32)).alloc (.cells z.cells 32)) wr.heap.size y.cells 32 := (Blk.new wr _ _).alloc _
        have q6 : Blk ((wr.alloc (.cells y.cells 32)).alloc (.cells z.cells 32)) (wr.heap.size + 1) z.cells 32 := by
          have := Blk.new (wr.alloc (.cells y.cells 32)) z.cells 32
          rwa [World.size_alloc] at this
        have HBN := Lib.hid hbn
        have HQ5 := Lib.hid q5
        have HQ6 := Lib.hid q6
        have HHK := Lib.hid HK
        have HHK' := Lib.hid HK'
        clear hy hz hk' hokv hsn HV HK HK' hbn q5 q6 hbW
        by_cases e1 : y.op = 1
        case neg =>
          have e1' : (y.op == 1) = false := by simp [e1]
          have hnc := HCUT.out.trans (show (y.op == 1 && z.op != 1 && y.kd != 1 && okv) = false by simp [e1'])
          have hnx := HN.out hnc _ HBN.out
          clear e1 hnc hval
          go_upto_region 7 with fail
          go_wp2_with fail
          exact ⟨hnx, by simp [intOf]; omega⟩
        have e1' : (y.op == 1) = true := by simp [e1]
        clear e1
        by_cases e2 : z.op = 1
        case pos =>
          have e2' : (z.op != 1) = false := by simp [e2]
          have hnc := HCUT.out.trans (show (y.op == 1 && z.op != 1 && y.kd != 1 && okv) = false by simp [e2'])
          have hnx := HN.out hnc _ HBN.out
          clear e2 hnc hval
          go_upto_region 7 with fail
          go_wp2_with fail
          exact ⟨hnx, by simp [intOf]; omega⟩
        by_cases e3 : y.kd = 1
        case pos =>
          have e2' : (z.op != 1) = true := by simp [e2]
          have e3' : (y.kd != 1) = false := by simp [e3]
          have hnc := HCUT.out.trans (show (y.op == 1 && z.op != 1 && y.kd != 1 && okv) = false by simp [e3'])
          have hnx := HN.out hnc _ HBN.out
          clear e2 e3 hnc hval
          go_upto_region 7 with fail
          go_wp2_with fail
          exact ⟨hnx, by simp [intOf]; omega⟩
        have e2' : (z.op != 1) = true := by simp [e2]
        have e3' : (y.kd != 1) = true := by simp [e3]
        rw [e1', e2', e3'] at HCUT
        clear e2 e3
        go_upto_region 7 with fail
        go_wp2_with fail
        refine hval.mono ?_
        rintro en w3 ⟨rfl, hb3⟩
        clear d0 d1 d2 d3 d4 d5 d6 d7 d8 c0 c1 c2 c3 c4 c5 c6 c7 c8 f0 f1 f2 f3 f4 f5 f6 f7 f8 hval
        have hb4 : Below wr.heap.size wr w3 := HBN.out.trans (hb3.mono (by simp; omega))
        cases okv with
        | false =>
          have hnx := HN.out (HCUT.out.trans rfl) _ hb4
          go_wp2_with fail
          exact ⟨hnx, by simp [intOf]; omega⟩
        | true =>
          have r5 := HQ5.out.below hb3 (by simp; omega)
          have r6 := HQ6.out.below hb3 (by simp)
          obtain ⟨d0, d1, d2, d3, d4, d5, d6, d7, d8⟩ := (p1.below hb4 p1.lt).nine
          obtain ⟨c0, c1, c2, c3, c4, c5, c6, c7, c8⟩ := r5.nine
          obtain ⟨f0, f1, f2, f3, f4, f5, f6, f7, f8⟩ := r6.nine
          have p3 := p2.below hb4 p2.lt
          go_upto_region 8 with fail
          iterate 34 go_step
          refine wpList_store_blk rfl 104 104 (.tmp 2) (.tmp 65) rfl (⟨z, y.kd, y.vv, _, sn⟩ : Tv).cells _ (B + 1) p3 infoTest rfl (cells_one _ rfl rfl) rfl rfl ?_
          intro W5 t1 t2 t3 t4
          clear d0 d1 d2 d3 d4 d5 d6 d7 d8 c0 c1 c2 c3 c4 c5 c6 c7 c8 f0 f1 f2 f3 f4 f5 f6 f7 f8
          have hb5 : Below B w W5 := (hbr.trans (hb4.mono (by have := HB.out; omega))).trans (t2 B (by omega))
          go_wp2_with fail
          refine bodyPost_ret (results_blk rfl _ _ (B + 1) _ _ t1 rfl Tryz.underlying104 rfl infoTest) rfl ?_
          refine ⟨_, rfl, ?_, hb5⟩
          rw [HT.out (HCUT.out.trans rfl)]
          unfold cutAt
          rw [← HK1.out, HSN.out]
          have hKB : K ≤ B := hK
          exact ⟨HHK'.out.1.below hb5 hK (Nat.le_refl _), HHK.out.1.open.2.2.2.1.kd, HHK.out.1.open.2.2.2.1.below hb5 hK (Nat.le_refl _), HOP.out, rfl⟩
      · obtain rfl : k = 2 := by omega
        have HT := Lib.hid (testOf_not HO.out HL.out (HF.out 0 (by omega)) (HF.out 1 (by omega)))
        go_upto_region 10 with fail
        iterate 7 go_step
        refine wpList_store_blk rfl 104 104 (.tmp 2) (.tmp 68) rfl (tq0 x).cells _ (B + 1) p2 infoTest rfl (by rw [hx]; exact cells_one _ rfl rfl) rfl (by rw [hx]; rfl) ?_
        intro W5 t1 t2 t3 t4
        clear d0 d1 d2 d3 d4 d5 d6 d7 d8
        have hb5 : Below B w W5 := hbr.trans (t2 B (by omega))
        go_wp2_with fail
        refine bodyPost_ret (results_blk rfl _ _ (B + 1) _ _ t1 rfl Tryz.underlying104 rfl infoTest) rfl ?_
        refine ⟨_, rfl, ?_, hb5⟩
        rw [HT.out]
        exact tq0_is (HX.out.below hb5 hK (Nat.le_refl _))
theorem testOf_any (K : Nat) (e : Gx) (x : Xv) (w : World) (h : ExG K w e x) (hg : e.good = true) (hK : K ≤ w.heap.size) :
    Calls Tryz.prog 80 #[x.agg] w fun en w' => ∃ y : Tv, en = .returned y.agg ∧ TqX K w' (testOf e) y ∧ Below w.heap.size w w' := by
  by_cases hop : (e.op = 13 ∨ e.op = 14) ∧ e.args.length = 2
  · exact testOf_two K e x w h hg hK hop.1 hop.2
  · exact testOf_none K e x w h hK hop
end Go.Proofs.YthooiobhlbnaoaaGreat
