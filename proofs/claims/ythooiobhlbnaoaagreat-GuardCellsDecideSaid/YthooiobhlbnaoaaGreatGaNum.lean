/- Contracts and plain laws, several texts in one (GNum, GNum2, GLong, GGcd, GWhole, GWhole2, GFrac, GFrac2, GFCmp). No conditions beyond those stated. -/
import Derived.Test.YthooiobhlbnaoaaGreatGInts
import Derived.Deep.Cut
import Derived.LoopN
import Derived.Laws.BitsAllLaws
import Derived.Test.YthooiobhlbnaoaaGreatORF
namespace Go.Proofs.YthooiobhlbnaoaaGreat
open Go.RowKit
set_option linter.unusedVariables false

/-- v reads as the number n of at most one digit. -/
def Wd (q : IntKind) (K : Nat) (w : World) (v : Value) (n : Nat) : Prop :=
  (n = 0 ∧ ∃ a c, v = .slice a 0 c ∧ c ≤ maxLen) ∨ (0 < n ∧ ∃ b o c, v = .slice (some ⟨b, o, none⟩) 1 c ∧ 1 ≤ c ∧ c ≤ maxLen ∧ b < K ∧ w.cell? ⟨b, o, none⟩ = some (.int q n))
/-- v reads as the number n of at most two digits, of which the higher one is zero. -/
def Pre (q : IntKind) (K : Nat) (w : World) (v : Value) (n : Nat) : Prop :=
  (n = 0 ∧ ∃ a c, v = .slice a 0 c ∧ c ≤ maxLen) ∨ (∃ b o c, v = .slice (some ⟨b, o, none⟩) 1 c ∧ 1 ≤ c ∧ c ≤ maxLen ∧ b < K ∧ w.cell? ⟨b, o, none⟩ = some (.int q n)) ∨
  (∃ b o c, v = .slice (some ⟨b, o, none⟩) 2 c ∧ 2 ≤ c ∧ c ≤ maxLen ∧ b < K ∧ w.cell? ⟨b, o, none⟩ = some (.int q n) ∧ w.cell? ⟨b, o + 1, none⟩ = some (.int q 0))
section
variable {q : IntKind} {K K' B : Nat} {w w' : World} {v : Value} {n : Nat}
theorem Wd.below (h : Wd q K w v n) (hb : Below B w w') (hB : K ≤ B) (hK : K ≤ K') : Wd q K' w' v n := by
  rcases h with ⟨h0, h1⟩ | ⟨h0, b, o, c, h1, h2, h3, h4, h5⟩
  · exact .inl ⟨h0, h1⟩
  · exact .inr ⟨h0, b, o, c, h1, h2, h3, by omega, (hb.cell (p := ⟨b, o, none⟩) (by simp; omega)).trans h5⟩
theorem Wd.pre (h : Wd q K w v n) : Pre q K w v n := by
  rcases h with ⟨h0, h1⟩ | ⟨h0, h1⟩
  · exact .inl ⟨h0, h1⟩
  · exact .inr (.inl h1)
theorem Wd.form (h : Wd q K w v n) : ∃ a m c, v = .slice a m c := by
  rcases h with ⟨_, a, c, rfl, _⟩ | ⟨_, b, o, c, rfl, _⟩
  · exact ⟨_, _, _, rfl⟩
  · exact ⟨_, _, _, rfl⟩
end
theorem Tryz.infoU16 : (Tryz.prog.info? 151).map (fun i => (i.zero, i.size, i.bytes)) = some (some (.int .u16 0), 1, 2) := by kernel_rfl
theorem Tryz.infoU32 : (Tryz.prog.info? 197).map (fun i => (i.zero, i.size, i.bytes)) = some (some (.int .u32 0), 1, 4) := by kernel_rfl
theorem make_w0 (w : World) : (Instr.makeSlice 186 (.int .i64 0) (.int .i64 0)).run Tryz.prog w = .ok (.slice (some ⟨w.heap.size, 0, none⟩) 0 0) (w.alloc (.cells #[] 197)) := by
  obtain ⟨i0, hi, hz0, hz1, hz2⟩ := info_parts Tryz.infoU32
  have h := run_make (P := Tryz.prog) w 186 197 i0 _ Tryz.underlying186 hi hz0 .i64 .i64 0 0 (by omega) (Int.le_refl _) (by rw [hz2]; omega) (by omega)
  rw [hz1, show madeCells (Value.int .u32 0).cells (Int.toNat 0 * 1) = (#[] : Array Value) from by kernel_rfl] at h; exact h
theorem make_w1 (w : World) : (Instr.makeSlice 186 (.int .i64 1) (.int .i64 1)).run Tryz.prog w = .ok (.slice (some ⟨w.heap.size, 0, none⟩) 1 1) (w.alloc (.cells #[.int .u32 0] 197)) := by
  obtain ⟨i0, hi, hz0, hz1, hz2⟩ := info_parts Tryz.infoU32
  have h := run_make (P := Tryz.prog) w 186 197 i0 _ Tryz.underlying186 hi hz0 .i64 .i64 1 1 (by omega) (Int.le_refl _) (by rw [hz2]; omega) (by omega)
  rw [hz1, show madeCells (Value.int .u32 0).cells (Int.toNat 1 * 1) = (#[.int .u32 0] : Array Value) from by kernel_rfl] at h; exact h
theorem make_w2 (w : World) : (Instr.makeSlice 186 (.int .i64 2) (.int .i64 2)).run Tryz.prog w = .ok (.slice (some ⟨w.heap.size, 0, none⟩) 2 2) (w.alloc (.cells #[.int .u32 0, .int .u32 0] 197)) := by
  obtain ⟨i0, hi, hz0, hz1, hz2⟩ := info_parts Tryz.infoU32
  have h := run_make (P := Tryz.prog) w 186 197 i0 _ Tryz.underlying186 hi hz0 .i64 .i64 2 2 (by omega) (Int.le_refl _) (by rw [hz2]; omega) (by omega)
  rw [hz1, show madeCells (Value.int .u32 0).cells (Int.toNat 2 * 1) = (#[.int .u32 0, .int .u32 0] : Array Value) from by kernel_rfl] at h; exact h
theorem make_l2 (w : World) : (Instr.makeSlice 24 (.int .i64 2) (.int .i64 2)).run Tryz.prog w = .ok (.slice (some ⟨w.heap.size, 0, none⟩) 2 2) (w.alloc (.cells #[.int .u16 0, .int .u16 0] 151)) := by
  obtain ⟨i0, hi, hz0, hz1, hz2⟩ := info_parts Tryz.infoU16
  have h := run_make (P := Tryz.prog) w 24 151 i0 _ Tryz.underlying24 hi hz0 .i64 .i64 2 2 (by omega) (Int.le_refl _) (by rw [hz2]; omega) (by omega)
  rw [hz1, show madeCells (Value.int .u16 0).cells (Int.toNat 2 * 1) = (#[.int .u16 0, .int .u16 0] : Array Value) from by kernel_rfl] at h; exact h

/-! ### trim -/
theorem trim_any (K : Nat) (v : Value) (n : Nat) (w : World) (h : Pre .u32 K w v n) : Calls Tryz.prog 204 #[v] w fun e w' => ∃ v', e = .returned v' ∧ Wd .u32 K w v' n ∧ w' = w := by
  rcases h with ⟨rfl, a, c, rfl, hc⟩ | ⟨b, o, c, rfl, h1, hc, hb, h5⟩ | ⟨b, o, c, rfl, h1, hc, hb, h5, h6⟩
  · go_enter Tryz.func204, Tryz.ntmps204
    go_wp2_with fail
    refine wp_loop_rounds 1 ?_
    rw [rounds_succ]
    go_wp2_with fail
    go_ret
    exact ⟨_, rfl, .inl ⟨rfl, _, _, rfl, hc⟩, rfl⟩
  · go_enter Tryz.func204, Tryz.ntmps204
    go_wp2_with fail
    refine wp_loop_rounds 2 ?_
    rw [rounds_succ]
    by_cases h0 : n = 0
    · subst h0
      go_wp2_with fail
      rw [rounds_succ]
      go_wp2_with fail
      go_ret
      exact ⟨_, rfl, .inl ⟨rfl, _, _, rfl, hc⟩, rfl⟩
    · have hx : ((n : Int) == 0) = false := by simp; omega
      go_wp2_with fail
      go_ret
      exact ⟨_, rfl, .inr ⟨by omega, b, o, c, rfl, h1, hc, hb, h5⟩, rfl⟩
  · go_enter Tryz.func204, Tryz.ntmps204
    go_wp2_with fail
    refine wp_loop_rounds 3 ?_
    rw [rounds_succ]
    go_wp2_with fail
    rw [rounds_succ]
    by_cases h0 : n = 0
    · subst h0
      go_wp2_with fail
      rw [rounds_succ]
      go_wp2_with fail
      go_ret
      exact ⟨_, rfl, .inl ⟨rfl, _, _, rfl, hc⟩, rfl⟩
    · have hx : ((n : Int) == 0) = false := by simp; omega
      go_wp2_with fail
      go_ret
      exact ⟨_, rfl, .inr ⟨by omega, b, o, c, rfl, by omega, hc, hb, h5⟩, rfl⟩

/-! ### compare, pack, unpack -/
theorem compare_any (K : Nat) (u v : Value) (m n : Nat) (w : World) (hu : Wd .u32 K w u m) (hv : Wd .u32 K w v n) : Calls Tryz.prog 170 #[u, v] w fun e w' => e = .returned (.int .i64 (if m < n then -1 else if n < m then 1 else 0)) ∧ ∃ k, w' = w.drewN k := by
  rcases hu with ⟨rfl, a, c, rfl, hc⟩ | ⟨h0, b, o, c, rfl, h1, hc, hb, h5⟩
  · rcases hv with ⟨rfl, a', c', rfl, hc'⟩ | ⟨h0', b', o', c', rfl, h1', hc', hb', h5'⟩
    · go_enter Tryz.func170, Tryz.ntmps170
      go_wp2_with fail
      refine wp_loop_rounds 1 ?_
      rw [rounds_succ]
      go_wp2_with fail
      go_ret
      exact ⟨rfl, 0, rfl⟩
    · have e : (if 0 < n then (-1 : Int) else if n < 0 then 1 else 0) = -1 := by rw [if_pos h0']
      rw [e]
      clear e
      go_enter Tryz.func170, Tryz.ntmps170
      go_wp2_with fail
      go_ret
      exact ⟨rfl, 0, rfl⟩
  · rcases hv with ⟨rfl, a', c', rfl, hc'⟩ | ⟨h0', b', o', c', rfl, h1', hc', hb', h5'⟩
    · have e : (if m < 0 then (-1 : Int) else if 0 < m then 1 else 0) = 1 := by rw [if_neg (by omega), if_pos h0]
      rw [e]
      clear e
      go_enter Tryz.func170, Tryz.ntmps170
      go_wp2_with fail
      go_ret
      exact ⟨rfl, 0, rfl⟩
    · by_cases he : m = n
      · subst he
        have e : (if m < m then (-1 : Int) else if m < m then 1 else 0) = 0 := by simp
        rw [e]
        have hx : ((m : Int) != m) = false := by simp
        clear e
        go_enter Tryz.func170, Tryz.ntmps170
        go_wp2_with fail
        refine wp_loop_rounds 2 ?_
        rw [rounds_succ]
        go_upto_region 8 with fail
        go_quiet (fail)
        go_wp2_with fail
        rw [rounds_succ]
        go_wp2_with fail
        go_ret
        exact ⟨rfl, _, rfl⟩
      · have hx : ((m : Int) != n) = true := by simp; omega
        by_cases hl : m < n
        · rw [if_pos hl]
          have hy : decide ((m : Int) < n) = true := by simp; omega
          go_enter Tryz.func170, Tryz.ntmps170
          go_wp2_with fail
          refine wp_loop_rounds 1 ?_
          rw [rounds_succ]
          go_upto_region 8 with fail
          go_quiet (fail)
          go_upto_region 9 with fail
          go_quiet (fail)
          go_wp2_with fail
          go_ret
          exact ⟨rfl, _, by first | rfl | exact drewN_two _ _ _⟩
        · rw [if_neg hl, if_pos (by omega)]
          have hy : decide ((m : Int) < n) = false := by simp; omega
          go_enter Tryz.func170, Tryz.ntmps170
          go_wp2_with fail
          refine wp_loop_rounds 1 ?_
          rw [rounds_succ]
          go_upto_region 8 with fail
          go_quiet (fail)
          go_upto_region 9 with fail
          go_quiet (fail)
          go_wp2_with fail
          go_ret
          exact ⟨rfl, _, by first | rfl | exact drewN_two _ _ _⟩

theorem pack_any (K : Nat) (v : Value) (n : Nat) (w : World) (h : Wd .u16 K w v n) (hK : K ≤ w.heap.size) (hn : n < 65536) : Calls Tryz.prog 171 #[v] w fun e w' => ∃ v', e = .returned v' ∧ Wd .u32 w'.heap.size w' v' n ∧ Below w.heap.size w w' := by
  rcases h with ⟨rfl, a, c, rfl, hc⟩ | ⟨h0, b, o, c, rfl, h1, hc, hb, h5⟩
  · have hm := make_w0
    go_enter Tryz.func171, Tryz.ntmps171
    go_wp2_with fail
    refine wp_loop_rounds 1 ?_
    rw [rounds_succ]
    go_wp2_with fail
    go_ret
    exact ⟨_, rfl, .inl ⟨rfl, _, _, rfl, by simp [maxLen]⟩, (Below.refl _ _).alloc (Nat.le_refl _) _⟩
  · have hm := make_w1
    have hne : ¬ b = w.heap.size := by omega
    have hlt : b < w.heap.size := by omega
    go_enter Tryz.func171, Tryz.ntmps171
    go_wp2_with fail
    refine wp_loop_rounds 2 ?_
    rw [rounds_succ]
    go_upto_region 5 with fail
    have hbits : bits BinOp.or IntKind.u32 0 (n : Int) = n := by have := u32_or_nat 0 n (by decide) (by omega); simpa using this
    go_region
    go_wp2_with fail
    rw [rounds_succ]
    go_wp2_with fail
    go_ret
    exact ⟨_, rfl, .inr ⟨h0, _, _, _, rfl, by omega, by simp [maxLen], by simp, by simp⟩, ((Below.refl _ w).alloc (Nat.le_refl _) _).trans ⟨rfl, rfl, rfl, Nat.le_refl _, fun _ _ => rfl⟩⟩

theorem Pre.below {q : IntKind} {K K' B : Nat} {w w' : World} {v : Value} {n : Nat} (h : Pre q K w v n) (hb : Below B w w') (hB : K ≤ B) (hK : K ≤ K') : Pre q K' w' v n := by
  rcases h with ⟨h0, h1⟩ | ⟨b, o, c, rfl, h1, hc, hb', h5⟩ | ⟨b, o, c, rfl, h1, hc, hb', h5, h6⟩
  · exact .inl ⟨h0, h1⟩
  · exact .inr (.inl ⟨b, o, c, rfl, h1, hc, by omega, (hb.cell (p := ⟨b, o, none⟩) (by simp; omega)).trans h5⟩)
  · exact .inr (.inr ⟨b, o, c, rfl, h1, hc, by omega, (hb.cell (p := ⟨b, o, none⟩) (by simp; omega)).trans h5, (hb.cell (p := ⟨b, o + 1, none⟩) (by simp; omega)).trans h6⟩)
/-- The digits lie in a block from L on. -/
def NewV (L : Nat) (v : Value) : Prop := ∀ b o m c, v = .slice (some ⟨b, o, none⟩) m c → L ≤ b
theorem NewV.nil (L m c : Nat) : NewV L (.slice none m c) := fun b o m c e => by simp at e
theorem NewV.at {L b o m c : Nat} (h : L ≤ b) : NewV L (.slice (some ⟨b, o, none⟩) m c) := fun b' o' m' c' e => by simp at e; omega
theorem NewV.mono {L L' : Nat} {v : Value} (h : NewV L v) (hl : L' ≤ L) : NewV L' v := fun b o m c e => Nat.le_trans hl (h b o m c e)
theorem Wd.set {q : IntKind} {K r i L : Nat} {w : World} {v x : Value} {n : Nat} (h : Wd q K w v n) (hn : NewV L v) (hr : r < L) : Wd q K (w.setCell ⟨r, i, none⟩ x) v n := by
  rcases h with ⟨h0, h1⟩ | ⟨h0, b, o, c, rfl, h2, h3, h4, h5⟩
  · exact .inl ⟨h0, h1⟩
  · have := hn b o 1 c rfl
    exact .inr ⟨h0, b, o, c, rfl, h2, h3, h4, ((grownBy_setCell w r i x).cell h5 (by simp; omega))⟩
theorem unpack_any (K : Nat) (v : Value) (n : Nat) (w : World) (h : Pre .u32 K w v n) (hK : K ≤ w.heap.size) (hn : n < 65536) : Calls Tryz.prog 199 #[.bool false, v] w fun e w' => ∃ v', e = .returned (.agg #[.bool false, v']) ∧ Wd .u16 w'.heap.size w' v' n ∧ Below w.heap.size w w' ∧ NewV w.heap.size v' := by
  have hp := h.below ((Below.refl w.heap.size w).alloc (Nat.le_refl _) (.cells #[.bool false, .slice none 0 0] 26)) hK (Nat.le_refl K)
  have ht := trim_any K v n _ hp
  clear hp h
  go_enter Tryz.func199, Tryz.ntmps199
  go_wp2_with fail
  refine ht.mono ?_
  rintro e w2 ⟨v', rfl, hv, rfl⟩
  clear ht
  rcases hv with ⟨rfl, a, c, rfl, hc⟩ | ⟨h0, b, o, c, rfl, h1, hc, hb, h5⟩
  · go_wp2_with fail
    refine bodyPost_ret (v := .agg #[.bool false, .slice none 0 0]) (by simp [results, Tryz.results199, go_sem]) rfl ?_
    exact ⟨_, rfl, .inl ⟨rfl, _, _, rfl, by simp [maxLen]⟩, ((Below.refl _ w).alloc (Nat.le_refl _) _), NewV.nil _ _ _⟩
  · have hm := make_l2
    have hlt : b < w.heap.size := by omega
    have hne : ¬ b = w.heap.size := by omega
    have hne2 : ¬ b = w.heap.size + 1 := by omega
    have h5 : w.cell? ⟨b, o, none⟩ = some (.int .u32 n) := (((Below.refl w.heap.size w).alloc (Nat.le_refl _) (.cells #[.bool false, .slice none 0 0] 26)).cell (p := ⟨b, o, none⟩) hlt).symm.trans h5
    go_wp2_with fail
    refine wp_loop_rounds 2 ?_
    rw [rounds_succ]
    go_wp2_with fail
    rw [rounds_succ]
    go_wp2_with fail
    refine bodyPost_ret (v := .agg #[.bool false, .slice (some ⟨w.heap.size + 1, 0, none⟩) 1 2]) (by simp [results, Tryz.results199, go_sem]) rfl ?_
    exact ⟨_, rfl, .inr ⟨h0, _, _, _, rfl, by omega, by simp [maxLen], by simp, by simp⟩, ((Below.refl _ w).alloc (Nat.le_refl _) _).alloc (by simp) _, NewV.at (by omega)⟩
end Go.Proofs.YthooiobhlbnaoaaGreat
namespace Go.Proofs.YthooiobhlbnaoaaGreat
open Go.RowKit
set_option linter.unusedVariables false

theorem below_quiet {B : Nat} {a w : World} (h : Below B a w) : Below B a w.drew := h.trans ⟨rfl, rfl, rfl, Nat.le_refl _, fun _ _ => rfl⟩
set_option maxRecDepth 10000 in
set_option maxHeartbeats 1000000 in
theorem times_any (K : Nat) (u v : Value) (m n : Nat) (w : World) (hu : Wd .u32 K w u m) (hv : Wd .u32 K w v n) (hK : K ≤ w.heap.size) (hmn : m * n < 65536) (hm : m < 65536) (hn : n < 65536) :
    Calls Tryz.prog 191 #[u, v] w fun e w' => ∃ v', e = .returned v' ∧ Wd .u32 w'.heap.size w' v' (m * n) ∧ Below w.heap.size w w' := by
  have fin : ∀ (W : World) (x : Value), Below w.heap.size w W → Pre .u32 W.heap.size W x (m * n) → Calls Tryz.prog 204 #[x] W fun e w' => ∃ v', e = .returned v' ∧ Wd .u32 w'.heap.size w' v' (m * n) ∧ Below w.heap.size w w' := fun W x hb hp => (trim_any _ x _ W hp).mono (by rintro e w' ⟨v', rfl, h, rfl⟩; exact ⟨v', rfl, h, hb⟩)
  have m0 := make_w0
  have m1 := make_w1
  have m2 := make_w2
  rcases hu with ⟨rfl, a, c, rfl, hc⟩ | ⟨h0, b, o, c, rfl, h1, hc, hb, h5⟩
  · rcases hv with ⟨rfl, a', c', rfl, hc'⟩ | ⟨h0', b', o', c', rfl, h1', hc', hb', h5'⟩
    · go_enter Tryz.func191, Tryz.ntmps191
      go_wp2_with fail
      refine wp_loop_rounds 1 ?_
      rw [rounds_succ]
      go_wp2_with fail
      refine (fin _ _ ((Below.refl _ w).alloc (Nat.le_refl _) _) (.inl ⟨by omega, _, _, rfl, by simp [maxLen]⟩)).mono ?_
      rintro e w' ⟨v', rfl, h⟩
      go_wp2_with fail
      go_ret
      exact ⟨_, rfl, h⟩
    · go_enter Tryz.func191, Tryz.ntmps191
      go_wp2_with fail
      refine wp_loop_rounds 1 ?_
      rw [rounds_succ]
      go_wp2_with fail
      refine (fin _ _ ((Below.refl _ w).alloc (Nat.le_refl _) _) (.inr (.inl ⟨_, _, _, rfl, by omega, by simp [maxLen], by simp, by simp⟩))).mono ?_
      rintro e w' ⟨v', rfl, h⟩
      go_wp2_with fail
      go_ret
      exact ⟨_, rfl, h⟩
  · have hlt : b < w.heap.size := by omega
    have hne : ¬ b = w.heap.size := by omega
    rcases hv with ⟨rfl, a', c', rfl, hc'⟩ | ⟨h0', b', o', c', rfl, h1', hc', hb', h5'⟩
    · go_enter Tryz.func191, Tryz.ntmps191
      go_wp2_with fail
      refine wp_loop_rounds 2 ?_
      rw [rounds_succ]
      go_wp2_with fail
      refine wp_loop_rounds 1 ?_
      rw [rounds_succ]
      go_wp2_with fail
      rw [rounds_succ]
      go_wp2_with fail
      refine (fin _ _ ((Below.refl _ w).alloc (Nat.le_refl _) _) (.inr (.inl ⟨_, _, _, rfl, by omega, by simp [maxLen], by simp, by simp⟩))).mono ?_
      rintro e w' ⟨v', rfl, h⟩
      go_wp2_with fail
      go_ret
      exact ⟨_, rfl, h⟩
    · have hlt' : b' < w.heap.size := by omega
      have hne' : ¬ b' = w.heap.size := by omega
      obtain ⟨p, hp⟩ : ∃ p, m * n = p := ⟨_, rfl⟩
      have hpi : ((m : Int) * (n : Int)) = (p : Int) := by rw [← hp]; simp
      rw [hp] at fin hmn ⊢
      go_enter Tryz.func191, Tryz.ntmps191
      go_wp2_with fail
      refine wp_loop_rounds 2 ?_
      rw [rounds_succ]
      go_wp2_with fail
      refine wp_loop_rounds 2 ?_
      rw [rounds_succ]
      go_wp2_with fail
      rw [rounds_succ]
      go_wp2_with fail
      rw [rounds_succ]
      go_wp2_with fail
      refine (fin _ _ ((Below.refl _ w).alloc (Nat.le_refl _) _) (.inr (.inr ⟨_, _, _, rfl, by omega, by simp [maxLen], by simp, by simp, by simp; omega⟩))).mono ?_
      rintro e w' ⟨v', rfl, h⟩
      go_wp2_with fail
      go_ret
      exact ⟨_, rfl, h⟩

set_option maxRecDepth 10000 in
set_option maxHeartbeats 1000000 in
theorem short_any (n : Nat) (w : World) (hn : n < 65536) :
    Calls Tryz.prog 209 #[.int .u64 n] w fun e w' => ∃ v', e = .returned v' ∧ Wd .u32 w'.heap.size w' v' n ∧ Below w.heap.size w w' := by
  have fin : ∀ (W : World) (x : Value), Below w.heap.size w W → Pre .u32 W.heap.size W x n → Calls Tryz.prog 204 #[x] W fun e w' => ∃ v', e = .returned v' ∧ Wd .u32 w'.heap.size w' v' n ∧ Below w.heap.size w w' := fun W x hb hp => (trim_any _ x _ W hp).mono (by rintro e w' ⟨v', rfl, h, rfl⟩; exact ⟨v', rfl, h, hb⟩)
  go_enter Tryz.func209, Tryz.ntmps209
  go_wp2_with fail
  refine (fin _ _ ((Below.refl _ w).alloc (Nat.le_refl _) _) (.inr (.inr ⟨_, _, _, rfl, by omega, by simp [maxLen], by simp, by simp, by simp; omega⟩))).mono ?_
  rintro e w' ⟨v', rfl, h⟩
  go_wp2_with fail
  go_ret
  exact ⟨_, rfl, h⟩

theorem div32_any (m : Nat) (w : World) (hm : m < 65536) : Calls Tryz.prog 219 #[.int .u32 0, .int .u32 m, .int .u32 1] w fun e w' => e = .returned (.tuple #[.int .u32 m, .int .u32 0]) ∧ ∃ k, w' = w.drewN k := by
  have hbits : bits BinOp.or IntKind.u64 0 (m : Int) = m := by have := u64_or_nat 0 m (by decide) (by omega); simpa using this
  go_enter Tryz.func219, Tryz.ntmps219
  go_upto_region 4 with fail
  go_quiet (fail)
  go_wp2_with fail
  go_ret2
  exact ⟨by simp, _, rfl⟩

set_option maxRecDepth 10000 in
set_option maxHeartbeats 1000000 in
theorem divShort_any (K : Nat) (u : Value) (m : Nat) (w : World) (hu : Wd .u32 K w u m) (hm0 : 0 < m) (hK : K ≤ w.heap.size) (hm : m < 65536) :
    Calls Tryz.prog 211 #[u, .int .u32 1] w fun e w' => ∃ v', e = .returned (.tuple #[v', .int .u32 0]) ∧ Wd .u32 w'.heap.size w' v' m ∧ Below w.heap.size w w' := by
  have fin : ∀ (W : World) (x : Value), Below w.heap.size w W → Pre .u32 W.heap.size W x m → Calls Tryz.prog 204 #[x] W fun e w' => ∃ v', e = .returned v' ∧ Wd .u32 w'.heap.size w' v' m ∧ Below w.heap.size w w' := fun W x hb hp => (trim_any _ x _ W hp).mono (by rintro e w' ⟨v', rfl, h, rfl⟩; exact ⟨v', rfl, h, hb⟩)
  have m1 := make_w1
  rcases hu with ⟨rfl, a, c, rfl, hc⟩ | ⟨h0, b, o, c, rfl, h1, hc, hb, h5⟩
  · omega
  · have hlt : b < w.heap.size := by omega
    have hne : ¬ b = w.heap.size := by omega
    go_enter Tryz.func211, Tryz.ntmps211
    go_wp2_with fail
    refine wp_loop_rounds 2 ?_
    rw [rounds_succ]
    go_wp2_with fail
    refine (div32_any m _ hm).mono ?_
    rintro e w' ⟨rfl, k, rfl⟩
    go_wp2_with fail
    rw [rounds_succ]
    go_wp2_with fail
    have hq : Blk (((w.alloc (.cells #[.int .u32 0] 197)).drewN k).setCell ⟨w.heap.size, 0, none⟩ (.int .u32 m)) w.heap.size #[.int .u32 m] 197 := Blk.set (w := (w.alloc (.cells #[.int .u32 0] 197)).drewN k) (Blk.new w #[.int .u32 0] 197) (i := 0) (.int .u32 m)
    refine (fin (((w.alloc (.cells #[.int .u32 0] 197)).drewN k).setCell ⟨w.heap.size, 0, none⟩ (.int .u32 m)) (.slice (some ⟨w.heap.size, 0, none⟩) 1 1) ((below_drewN2 ((Below.refl _ w).alloc (Nat.le_refl _) _) _).setCell (p := ⟨w.heap.size, 0, none⟩) (Nat.le_refl _) _) (.inr (.inl ⟨w.heap.size, 0, 1, rfl, by omega, by simp [maxLen], hq.lt, hq.at rfl⟩))).mono ?_
    rintro e w' ⟨v', rfl, h⟩
    go_wp2_with fail
    go_ret2
    exact ⟨_, rfl, h⟩

set_option maxRecDepth 10000 in
set_option maxHeartbeats 1000000 in
/-- Divided by one. -/
theorem divide1_any (K : Nat) (u v : Value) (m : Nat) (w : World) (hu : Wd .u32 K w u m) (hm0 : 0 < m) (hv : Wd .u32 K w v 1) (hK : K ≤ w.heap.size) (hm : m < 65536) :
    Calls Tryz.prog 201 #[u, v] w fun e w' => ∃ v' r, e = .returned (.tuple #[v', r]) ∧ Wd .u32 w'.heap.size w' v' m ∧ Wd .u32 w'.heap.size w' r 0 ∧ Below w.heap.size w w' := by
  have hcmp := compare_any K u v m 1 w hu hv
  have e1 : (if m < 1 then (-1 : Int) else if 1 < m then 1 else 0) = if 1 < m then 1 else 0 := by rw [if_neg (by omega)]
  obtain ⟨cv, hcv⟩ : ∃ cv : Int, (if 1 < m then (1 : Int) else 0) = cv := ⟨_, rfl⟩
  have hcv0 : ¬ cv < 0 := by rw [← hcv]; split <;> omega
  rw [e1, hcv] at hcmp
  rcases hv with ⟨h0, _⟩ | ⟨_, b', o', c', rfl, h1', hc', hb', h5'⟩
  · omega
  have hds : ∀ k, Calls Tryz.prog 211 #[u, .int .u32 1] (w.drewN k) fun e w' => ∃ v', e = .returned (.tuple #[v', .int .u32 0]) ∧ Wd .u32 w'.heap.size w' v' m ∧ Below w.heap.size w w' := fun k => (divShort_any K u m (w.drewN k) hu hm0 hK hm).mono (by rintro e w' ⟨v', rfl, h1, h2⟩; exact ⟨v', rfl, h1, (below_drewN2 (Below.refl _ w) k).trans h2⟩)
  obtain ⟨ua, um, uc, rfl⟩ := hu.form
  clear hcv e1
  go_enter Tryz.func201, Tryz.ntmps201
  go_wp2_with fail
  refine hcmp.mono ?_
  rintro e w1 ⟨rfl, k, rfl⟩
  go_wp2_with fail
  refine (hds k).mono ?_
  rintro e w2 ⟨v', rfl, hv', hb2⟩
  obtain ⟨va, vm, vc, rfl⟩ := hv'.form
  go_wp2_with fail
  have hb3 : Below w2.heap.size w2 (w2.alloc (.cells #[.int .u32 0] 197)) := (Below.refl _ _).alloc (Nat.le_refl _) _
  have ht := trim_any (w2.heap.size + 1) (.slice (some ⟨w2.heap.size, 0, none⟩) 1 1) 0 (w2.alloc (.cells #[.int .u32 0] 197)) (.inr (.inl ⟨_, _, _, rfl, by omega, by simp [maxLen], by omega, by simp⟩))
  refine ht.mono ?_
  rintro e w3 ⟨r, rfl, hr, rfl⟩
  obtain ⟨ra, rm, rc, rfl⟩ := hr.form
  go_wp2_with fail
  go_ret2
  exact ⟨_, _, rfl, hv'.below hb3 (Nat.le_refl _) (by simp), hr.below (Below.refl _ _) (Nat.le_refl _) (by simp), hb2.trans (hb3.mono hb2.size)⟩
end Go.Proofs.YthooiobhlbnaoaaGreat
namespace Go.Proofs.YthooiobhlbnaoaaGreat
open Go.RowKit
set_option linter.unusedVariables false
attribute [local go_sem] Oper.semAt_some

theorem down_any (v : Value) (w : World) (hv : v.oneCell' = true) : Calls Tryz.prog 218 #[v] w fun e w' => e = .returned (.func (.func 223) #[] #[.pointer (some ⟨w.heap.size, 0, none⟩)]) ∧ w.alloc (.cells #[v] 186) = w' := by
  cases v <;> simp [Value.oneCell'] at hv
  all_goals
    go_enter Tryz.func218, Tryz.ntmps218
    go_wp2_with fail
    go_ret
    exact ⟨rfl, rfl⟩

def oneL (n : Nat) : List Nat := if n = 0 then [] else [n]
set_option maxRecDepth 100000 in
set_option maxHeartbeats 1000000 in
theorem down_iter (K L : Nat) (v : Value) (n : Nat) :
    IterSt (α := Nat) Tryz.prog 223 (fun i => #[] ++ #[.func (.yield i) #[] #[]] ++ #[.pointer (some ⟨L, 0, none⟩)]) (fun x => #[.int .u32 x]) (fun pre x W => pre = [] ∧ x = n) (fun A B => A.grownBy B none) (fun _ _ => True)
      (fun xs W => xs = oneL n) (fun _ _ => True) (fun W => Blk W L #[v] 186 ∧ Wd .u32 K W v n) := by
  rintro m i J Jx W ⟨hb, hv⟩ hJ hJx hY h0
  have c0 : W.cell? ⟨L, 0, none⟩ = some v := hb.at rfl
  refine callsIn_of_wp Tryz.func223 rfl trivial ?_
  simp only [Tryz.ntmps223, List.size_toArray, List.length_cons, List.length_nil, Nat.reduceAdd, Nat.reduceSub, Array.replicate_succ, Array.replicate_zero, List.push_toArray, List.append_toArray, List.nil_append, List.cons_append]
  rcases hv with ⟨rfl, a, c, rfl, hc⟩ | ⟨hn0, b, o, c, rfl, h1, hc, hbk, h5⟩
  · gi_wp2_with fail
    refine wpIn_loop_rounds 1 ?_
    rw [roundsIn_succ]
    gi_wp2_with fail
    go_end0
    exact ⟨⟨_, rfl⟩, .inl ⟨[], rfl, h0⟩⟩
  · have hn1 : oneL n = [n] := by unfold oneL; rw [if_neg (by omega)]
    rw [hn1]
    obtain ⟨fn, tmps, assign, body, hy, hR⟩ := hY [] n W h0 ⟨rfl, rfl⟩
    clear hY hn1
    gi_wp2_with fail
    refine wpIn_loop_rounds 2 ?_
    rw [roundsIn_succ]
    gi_wp2_with fail
    refine ⟨wide_depth, hR.mono ?_⟩
    clear hR hy
    rintro e' W3 (⟨rfl, hj3, hk3⟩ | ⟨rfl, hj3, hk3⟩)
    · gi_wp2_with fail
      rw [roundsIn_succ]
      gi_wp2_with fail
      go_end0
      exact ⟨⟨_, rfl⟩, .inl ⟨[n], rfl, hj3⟩⟩
    · gi_wp2_with fail
      refine bodyPost_ret (results_none rfl _ _ _) rfl ?_
      exact ⟨⟨_, rfl⟩, .inr ⟨_, trivial, hj3⟩⟩

/-- Between two rounds. -/
def LongI (B0 : Nat) (w : World) (n : Nat) (pre : List Nat) (W : World) : Prop :=
  Blk W B0 #[.int .u64 (if pre = [] then 0 else n)] 139 ∧ Below B0 w W ∧ B0 + 1 ≤ W.heap.size
theorem LongI.kept {B0 : Nat} {w W W' : World} {n : Nat} {pre : List Nat} {row : Option Nat} (h : LongI B0 w n pre W) (hg : W.grownBy W' row) (hr : ∀ k, row = some k → B0 + 1 ≤ k) : LongI B0 w n pre W' := by
  obtain ⟨h1, h2, h3⟩ := h
  exact ⟨h1.kept hg (fun e => by have := hr _ e.symm; omega), h2.trans (below_grown hg (fun k e => by have := hr k e; omega) (by omega)), Nat.le_trans h3 hg.size⟩

set_option maxRecDepth 100000 in
set_option maxHeartbeats 2000000 in
theorem long_any (K : Nat) (v : Value) (n : Nat) (w : World) (h : Wd .u32 K w v n) (hK : K ≤ w.heap.size) (hn : n < 65536) :
    Calls Tryz.prog 208 #[v] w fun e w' => e = .returned (.int .u64 n) ∧ Below w.heap.size w w' := by
  obtain ⟨va, vn, vc, rfl⟩ := h.form
  obtain ⟨B0, hB0⟩ : ∃ B0, w.heap.size = B0 := ⟨_, rfl⟩
  obtain ⟨W2, hW2⟩ : ∃ W2, (w.alloc (.cells #[.int .u64 0] 139)).alloc (.cells #[.slice va vn vc] 186) = W2 := ⟨_, rfl⟩
  have hb2 : Below B0 w W2 := by rw [← hW2, ← hB0]; exact ((Below.refl _ w).alloc (Nat.le_refl _) _).alloc (by simp) _
  have q0 : Blk W2 B0 #[.int .u64 0] 139 := by rw [← hW2, ← hB0]; exact (Blk.new w _ _).alloc _
  have q1 : Blk W2 (B0 + 1) #[.slice va vn vc] 186 := by
    rw [← hW2, ← hB0]
    have := Blk.new (w.alloc (.cells #[.int .u64 0] 139)) #[.slice va vn vc] 186
    rwa [World.size_alloc] at this
  have s2 : W2.heap.size = B0 + 2 := by rw [← hW2, ← hB0]; simp
  have HB := Lib.hid hB0
  have HW := Lib.hid hW2
  rw [hB0] at hK ⊢
  clear hB0 hW2
  refine callsIn_wide.1 (callsIn_of_wp_marks (n := 5) Tryz.func208 rfl trivial ?_)
  simp only [Tryz.ntmps208, List.size_toArray, List.length_cons, List.length_nil, Nat.reduceAdd, Nat.reduceSub, Array.replicate_succ, Array.replicate_zero, List.push_toArray, List.append_toArray, List.nil_append, List.cons_append]
  gi_wp2_with fail
  refine ⟨trivial, callsIn_wide.2 ((down_any _ _ rfl).mono ?_)⟩
  rintro en w' ⟨rfl, rfl⟩
  gi_wp2_with fail
  simp only [HB.out]
  rw [HW.out]
  refine range_law (gf := 223) (fi := #[]) (lb := #[.pointer (some ⟨B0 + 1, 0, none⟩)]) rfl (enters_of Tryz.func223 (by kernel_rfl) rfl) (down_iter K (B0 + 1) (.slice va vn vc) n) (fun _ => rfl)
    (fun pre W => LongI B0 w n pre W) (fun _ _ _ => False)
    (fun pre x a1 W => LongI B0 w n pre W ∧ pre = [] ∧ x = n ∧
      a1 = { tmps := #[.slice va vn vc, undef, .int .u64 0, .pointer (some ⟨B0, 0, none⟩), .int .u32 n, .slice va vn vc, .func (.func 223) #[] #[.pointer (some ⟨B0 + 1, 0, none⟩)], .int .u32 n, undef, undef, undef, undef, undef, undef], defers := [] })
    ?hSt ?hI ?hIx ?hA ?hS ?hSp ?hISt ?hIxSt ?hKt ?hKb ?h0 ?hPre ?hassign ?hbody ?hdone ?hstop
  case hSt => exact fun A B _ hg => KeepsFrom.of_grownBy hg (fun j e => by cases e)
  case hI => exact fun s W l o o' hi hle hl ho => hi.kept (grownBy_putObj' W l o') (fun k e => by cases e; omega)
  case hIx => exact fun c s W l o o' hi _ _ _ => hi
  case hA =>
    rintro s y a1 W l o o' ⟨hi, hx1, hx2, ha⟩ hle hl ho
    exact ⟨hi.kept (grownBy_putObj' W l o') (fun k e => by cases e; omega), hx1, hx2, ha⟩
  case hS => exact fun s W l o o' h _ _ _ => h
  case hSp => exact fun s W l o o' h _ _ _ => h
  case hISt => exact fun s A B hi hg => hi.kept hg (fun k e => by cases e)
  case hIxSt => exact fun c s A B hi _ => hi
  case hKt => exact fun A B C _ _ => trivial
  case hKb => exact fun W l o o' _ _ _ => trivial
  case h0 =>
    intro o o'
    exact ⟨(q0.alloc _).alloc _, (hb2.alloc (by omega) o).alloc (by simp; omega) o', by simp; omega⟩
  case hPre =>
    intro o o'
    exact ⟨(q1.alloc _).alloc _, h.below ((hb2.alloc (by omega) o).alloc (by simp; omega) o') hK (Nat.le_refl _)⟩
  case hstop => exact fun D c pre W _ _ hi _ => hi.elim
  case hassign =>
    rintro i pre y W hi ⟨rfl, rfl⟩ hlt
    gi_wp2
    exact ⟨KeepsFrom.refl _ _, trivial, hi, by trivial, by trivial, by first | trivial | rfl⟩
  case hbody =>
    rintro i pre y a1 W ⟨hi, rfl, rfl, rfl⟩
    obtain ⟨g1, g2, g3⟩ := hi
    obtain ⟨c0, c1⟩ := g1.one
    have hbits : bits BinOp.or IntKind.u64 0 (y : Int) = y := by have := u64_or_nat 0 y (by decide) (by omega); simpa using this
    gi_wp2_with fail
    exact ⟨KeepsFrom.of_grownBy (grownBy_setCell W B0 0 _) (fun j e => by simp at e; omega), trivial, g1.set (i := 0) (.int .u64 y), g2.setCell (p := ⟨B0, 0, none⟩) (Nat.le_refl _) _, by have := (grownBy_setCell W B0 0 (.int .u64 y)).size; omega⟩
  case hdone =>
    rintro D xs W hD rfl hi hdef
    obtain ⟨g1, g2, g3⟩ := hi
    have c0 : W.cell? ⟨B0, 0, none⟩ = some (.int .u64 n) := by
      rw [(g1.one).1]
      unfold oneL
      by_cases h0 : n = 0
      · subst h0; rfl
      · simp [h0]
    gi_wp2_with fail
    refine ⟨by simp, .inl ⟨_, _, rfl, run_takeDeferred hdef, ?_⟩⟩
    exact ⟨_, results_tmp rfl _ _ _, rfl, g2.trans (below_grown (grownBy_putObj' W D (.deferred none)) (fun r e => by cases e; omega) (by omega))⟩
end Go.Proofs.YthooiobhlbnaoaaGreat
namespace Go.Proofs.YthooiobhlbnaoaaGreat
open Go.RowKit
set_option linter.unusedVariables false

set_option maxRecDepth 10000 in
set_option maxHeartbeats 2000000 in
/-- The greatest common divisor. -/
theorem common_any (K : Nat) (u v : Value) (m n : Nat) (w : World) (hu : Wd .u32 K w u m) (hv : Wd .u32 K w v n) (hK : K ≤ w.heap.size) (hm : m < 65536) (hn : n < 65536) :
    Calls Tryz.prog 200 #[u, v] w fun e w' => ∃ v', e = .returned v' ∧ Wd .u32 w'.heap.size w' v' (Nat.gcd m n) ∧ Below w.heap.size w w' := by
  have hcmp := compare_any K u v m n w hu hv
  have hl1 : ∀ W, Below w.heap.size w W → Calls Tryz.prog 208 #[u] W fun e w' => e = .returned (.int .u64 m) ∧ Below W.heap.size W w' := fun W hb => long_any W.heap.size u m W (hu.below hb hK (Nat.le_trans hK hb.size)) (Nat.le_refl _) hm
  have hl2 : ∀ W, Below w.heap.size w W → Calls Tryz.prog 208 #[v] W fun e w' => e = .returned (.int .u64 n) ∧ Below W.heap.size W w' := fun W hb => long_any W.heap.size v n W (hv.below hb hK (Nat.le_trans hK hb.size)) (Nat.le_refl _) hn
  by_cases hlt : m < n
  · have e1 : (if m < n then (-1 : Int) else if n < m then 1 else 0) = -1 := by rw [if_pos hlt]
    rw [e1] at hcmp
    clear e1
    go_enter Tryz.func200, Tryz.ntmps200
    go_wp2_with fail
    refine hcmp.mono ?_
    rintro e w1 ⟨rfl, kk, rfl⟩
    by_cases hs0 : m = 0
    · have hl0 : Hid (Wd .u32 K w v (Nat.gcd m n)) := Lib.hid (by rw [Nat.gcd_comm m n, hs0, Nat.gcd_zero_right]; exact hv)
      rcases hu with ⟨_, sa, sc, rfl, _⟩ | ⟨h0, _⟩
      · obtain ⟨ba, bm, bc, hbf⟩ := hl0.out.form
        subst hbf
        go_wp2_with fail
        refine wp_loop_rounds 1 ?_
        rw [rounds_succ]
        go_wp2_with fail
        go_ret
        exact ⟨_, rfl, hl0.out.below (below_drewN2 (Below.refl w.heap.size w) _) hK hK, below_drewN2 (Below.refl _ w) _⟩
      · omega
    · have hbl := hv
      have hq1 := hl2
      have hq2 := hl1
      rcases hu with ⟨h0, _⟩ | ⟨h0, sb, so, sc, rfl, hs1, hs2, hs3, hs4⟩
      · omega
      rcases hv with ⟨h0', _⟩ | ⟨h0', bb, bo, bc, rfl, hb1, hb2, hb3, hb4⟩
      · omega
      go_wp2_with fail
      refine wp_loop_rounds 1 ?_
      rw [rounds_succ]
      go_wp2_with fail
      refine (hq1 _ (below_drewN2 (Below.refl _ w) _)).mono ?_
      rintro e w2 ⟨rfl, hw2⟩
      have hw2' : Below w.heap.size w w2 := (below_drewN2 (Below.refl _ w) _).trans hw2
      go_wp2_with fail
      refine (hq2 _ hw2').mono ?_
      rintro e w3 ⟨rfl, hw3⟩
      have hw3' : Below w.heap.size w w3 := hw2'.trans (hw3.mono hw2'.size)
      have HG : Hid (Nat.gcd n m = Nat.gcd m n) := Lib.hid (Nat.gcd_comm m n).symm
      clear hq1 hq2 hcmp hl1 hl2 hs4 hb4 hbl
      go_wp2_with fail
      go_loopw [10, 11] (fun x y wr => ∃ (a b q : Nat), x = .int .u64 a ∧ y = .int .u64 b ∧ Hid (Nat.gcd a b = Nat.gcd m n) ∧ a < 65536 ∧ b < 65536 ∧ wr = w3.drewN q) (fun _ y _ => (intOf y).toNat)
      case atStart => exact ⟨_, _, 0, rfl, rfl, by first | exact HG | exact Lib.hid rfl, by omega, by omega, rfl⟩
      case round =>
        obtain ⟨a, b, q, rfl, rfl, HAB, ha, hb, rfl⟩ := hrel
        by_cases hb0 : b = 0
        · subst hb0
          have hfin : Hid (a = Nat.gcd m n) := Lib.hid (by rw [← HAB.out, Nat.gcd_zero_right])
          have hsh := short_any a (w3.drewN q) ha
          go_wp2_with fail
          refine hsh.mono ?_
          rintro e w4 ⟨v', rfl, hv', hb4⟩
          go_wp2_with fail
          go_ret
          exact ⟨_, rfl, by rw [← hfin.out]; exact hv', hw3'.trans ((below_drewN2 (Below.refl _ _) _).trans hb4 |>.mono hw3'.size)⟩
        · have hx : ((b : Int) != 0) = true := by simp; omega
          have hy : ((b : Int) == 0) = false := by simp; omega
          have hrem : Hid (Nat.gcd b (a % b) = Nat.gcd m n) := Lib.hid (by rw [← HAB.out, Nat.gcd_comm a b, Nat.gcd_rec b a, Nat.gcd_comm])
          have hmod : a % b < b := Nat.mod_lt _ (by omega)
          have htm : Int.tmod (a : Int) (b : Int) = ((a % b : Nat) : Int) := by rw [Int.tmod_eq_emod_of_nonneg (by omega)]; simp
          have hem : (a : Int) % (b : Int) = ((a % b : Nat) : Int) := by simp
          obtain ⟨r, hr⟩ : ∃ r, a % b = r := ⟨_, rfl⟩
          rw [hr] at hrem hmod htm hem
          clear hr
          go_upto_region 18 with fail
          go_quiet (fail)
          go_wp2_with fail
          exact ⟨⟨b, r, _, rfl, rfl, hrem, by omega, by omega, drewN_two _ _ _⟩, by simp [intOf]; omega⟩
  · obtain ⟨cv, hcv⟩ : ∃ cv : Int, (if m < n then (-1 : Int) else if n < m then 1 else 0) = cv := ⟨_, rfl⟩
    have hcv0 : ¬ cv < 0 := by rw [← hcv, if_neg hlt]; split <;> omega
    rw [hcv] at hcmp
    clear hcv
    go_enter Tryz.func200, Tryz.ntmps200
    go_wp2_with fail
    refine hcmp.mono ?_
    rintro e w1 ⟨rfl, kk, rfl⟩
    by_cases hs0 : n = 0
    · have hl0 : Hid (Wd .u32 K w u (Nat.gcd m n)) := Lib.hid (by rw [(rfl : Nat.gcd m n = Nat.gcd m n), hs0, Nat.gcd_zero_right]; exact hu)
      rcases hv with ⟨_, sa, sc, rfl, _⟩ | ⟨h0, _⟩
      · obtain ⟨ba, bm, bc, hbf⟩ := hl0.out.form
        subst hbf
        go_wp2_with fail
        refine wp_loop_rounds 1 ?_
        rw [rounds_succ]
        go_wp2_with fail
        go_ret
        exact ⟨_, rfl, hl0.out.below (below_drewN2 (Below.refl w.heap.size w) _) hK hK, below_drewN2 (Below.refl _ w) _⟩
      · omega
    · have hbl := hu
      have hq1 := hl1
      have hq2 := hl2
      rcases hv with ⟨h0, _⟩ | ⟨h0, sb, so, sc, rfl, hs1, hs2, hs3, hs4⟩
      · omega
      rcases hu with ⟨h0', _⟩ | ⟨h0', bb, bo, bc, rfl, hb1, hb2, hb3, hb4⟩
      · omega
      go_wp2_with fail
      refine wp_loop_rounds 1 ?_
      rw [rounds_succ]
      go_wp2_with fail
      refine (hq1 _ (below_drewN2 (Below.refl _ w) _)).mono ?_
      rintro e w2 ⟨rfl, hw2⟩
      have hw2' : Below w.heap.size w w2 := (below_drewN2 (Below.refl _ w) _).trans hw2
      go_wp2_with fail
      refine (hq2 _ hw2').mono ?_
      rintro e w3 ⟨rfl, hw3⟩
      have hw3' : Below w.heap.size w w3 := hw2'.trans (hw3.mono hw2'.size)
      have HG : Hid (Nat.gcd m n = Nat.gcd m n) := Lib.hid ((rfl : Nat.gcd m n = Nat.gcd m n)).symm
      clear hq1 hq2 hcmp hl1 hl2 hs4 hb4 hbl
      go_wp2_with fail
      go_loopw [10, 11] (fun x y wr => ∃ (a b q : Nat), x = .int .u64 a ∧ y = .int .u64 b ∧ Hid (Nat.gcd a b = Nat.gcd m n) ∧ a < 65536 ∧ b < 65536 ∧ wr = w3.drewN q) (fun _ y _ => (intOf y).toNat)
      case atStart => exact ⟨_, _, 0, rfl, rfl, by first | exact HG | exact Lib.hid rfl, by omega, by omega, rfl⟩
      case round =>
        obtain ⟨a, b, q, rfl, rfl, HAB, ha, hb, rfl⟩ := hrel
        by_cases hb0 : b = 0
        · subst hb0
          have hfin : Hid (a = Nat.gcd m n) := Lib.hid (by rw [← HAB.out, Nat.gcd_zero_right])
          have hsh := short_any a (w3.drewN q) ha
          go_wp2_with fail
          refine hsh.mono ?_
          rintro e w4 ⟨v', rfl, hv', hb4⟩
          go_wp2_with fail
          go_ret
          exact ⟨_, rfl, by rw [← hfin.out]; exact hv', hw3'.trans ((below_drewN2 (Below.refl _ _) _).trans hb4 |>.mono hw3'.size)⟩
        · have hx : ((b : Int) != 0) = true := by simp; omega
          have hy : ((b : Int) == 0) = false := by simp; omega
          have hrem : Hid (Nat.gcd b (a % b) = Nat.gcd m n) := Lib.hid (by rw [← HAB.out, Nat.gcd_comm a b, Nat.gcd_rec b a, Nat.gcd_comm])
          have hmod : a % b < b := Nat.mod_lt _ (by omega)
          have htm : Int.tmod (a : Int) (b : Int) = ((a % b : Nat) : Int) := by rw [Int.tmod_eq_emod_of_nonneg (by omega)]; simp
          have hem : (a : Int) % (b : Int) = ((a % b : Nat) : Int) := by simp
          obtain ⟨r, hr⟩ : ∃ r, a % b = r := ⟨_, rfl⟩
          rw [hr] at hrem hmod htm hem
          clear hr
          go_upto_region 18 with fail
          go_quiet (fail)
          go_wp2_with fail
          exact ⟨⟨b, r, _, rfl, rfl, hrem, by omega, by omega, drewN_two _ _ _⟩, by simp [intOf]; omega⟩
end Go.Proofs.YthooiobhlbnaoaaGreat
namespace Go.Proofs.YthooiobhlbnaoaaGreat
open Go.RowKit
set_option linter.unusedVariables false

abbrev Wv (v : Value) : Value := .agg #[.bool false, v]
theorem wvalid_any (K : Nat) (v : Value) (n : Nat) (w : World) (h : Wd .u16 K w v n) (hK : K ≤ w.heap.size) : Calls Tryz.prog 152 #[Wv v] w fun e w' => e = .returned (.bool true) ∧ Below w.heap.size w w' := by
  rcases h with ⟨rfl, a, c, rfl, hc⟩ | ⟨h0, b, o, c, rfl, h1, hc, hb, h5⟩
  · go_enter Tryz.func152, Tryz.ntmps152
    go_wp2_with fail
    go_ret
    exact ⟨rfl, (Below.refl _ w).alloc (Nat.le_refl _) _⟩
  · have hlt : b < w.heap.size := by omega
    have hne : ¬ b = w.heap.size := by omega
    have hx : ((n : Int) != 0) = true := by simp; omega
    go_enter Tryz.func152, Tryz.ntmps152
    go_wp2_with fail
    go_ret
    exact ⟨rfl, (Below.refl _ w).alloc (Nat.le_refl _) _⟩

set_option maxRecDepth 10000 in
set_option maxHeartbeats 1000000 in
/-- Both of two numbers are valid. -/
theorem wallvalid_any (K b : Nat) (u v : Value) (m n : Nat) (w : World) (hu : Wd .u16 K w u m) (hv : Wd .u16 K w v n) (hK : K ≤ w.heap.size) (hq : Blk w b #[.bool false, u, .bool false, v] 26) :
    Calls Tryz.prog 169 #[.slice (some ⟨b, 0, none⟩) 2 2] w fun e w' => e = .returned (.bool true) ∧ Below w.heap.size w w' := by
  obtain ⟨ua, um, uc, rfl⟩ := hu.form
  obtain ⟨va, vm, vc, rfl⟩ := hv.form
  have hb := hq.lt
  obtain ⟨q0, q1, q2, q3⟩ := hq.four
  have hne : ¬ b = w.heap.size := by omega
  go_enter Tryz.func169, Tryz.ntmps169
  go_wp2_with fail
  refine wp_loop_rounds 3 ?_
  rw [rounds_succ]
  go_wp2_with fail
  have b1 : Below w.heap.size w (w.alloc (.cells #[.bool false, .slice ua um uc] 26)) := (Below.refl _ _).alloc (Nat.le_refl _) _
  refine (wvalid_any _ _ m _ (hu.below b1 hK (Nat.le_refl _)) (by simp; omega)).mono ?_
  rintro e w2 ⟨rfl, hb2⟩
  have hw2 : Below w.heap.size w w2 := b1.trans (hb2.mono (by simp))
  obtain ⟨r0, r1, r2, r3⟩ := (hq.below hw2 hb).four
  have hb2 : b < w2.heap.size := Nat.lt_of_lt_of_le hb hw2.size
  have hne2 : ¬ b = w2.heap.size := by omega
  go_wp2_with fail
  rw [rounds_succ]
  go_wp2_with fail
  have b3 : Below w.heap.size w (w2.alloc (.cells #[.bool false, .slice va vm vc] 26)) := hw2.alloc hw2.size _
  refine (wvalid_any _ _ n _ (hv.below b3 hK (Nat.le_refl _)) (by simp; have := hw2.size; omega)).mono ?_
  rintro e w4 ⟨rfl, hb4⟩
  go_wp2_with fail
  rw [rounds_succ]
  go_wp2_with fail
  go_ret
  exact ⟨rfl, b3.trans (hb4.mono (by simp; have := hw2.size; omega))⟩

set_option maxRecDepth 10000 in
set_option maxHeartbeats 1000000 in
theorem wresult_any (K : Nat) (v : Value) (n : Nat) (w : World) (h : Wd .u32 K w v n) (hK : K ≤ w.heap.size) (hn : n < 65536) :
    Calls Tryz.prog 190 #[.bool false, v] w fun e w' => ∃ v', e = .returned (.tuple #[Wv v', .int .i64 0]) ∧ Wd .u16 w'.heap.size w' v' n ∧ Below w.heap.size w w' ∧ NewV w.heap.size v' := by
  have b1 : Below w.heap.size w (w.alloc (.cells #[.bool false, .slice none 0 0] 26)) := (Below.refl _ _).alloc (Nat.le_refl _) _
  have hu := unpack_any K v n _ (h.pre.below b1 hK (Nat.le_refl _)) (by simp; omega) hn
  have q1 : Blk (w.alloc (.cells #[.bool false, .slice none 0 0] 26)) w.heap.size #[.bool false, .slice none 0 0] 26 := Blk.new w _ _
  go_enter Tryz.func190, Tryz.ntmps190
  go_wp2_with fail
  refine hu.mono ?_
  rintro e w2 ⟨v', rfl, hv', hb2, hnw⟩
  have hb2' : Below w.heap.size w w2 := b1.trans (hb2.mono (by simp))
  have q2 := q1.below hb2 q1.lt
  obtain ⟨d0, d1⟩ := q2.two
  have f0 := q2.free 0
  have f1 := q2.free 1
  have hlt := q2.lt
  have hne : ¬ w.heap.size = w2.heap.size := by omega
  obtain ⟨a, m, c, hf⟩ := hv'.form
  have hm : m ≤ 1 := by
    rcases hv' with ⟨_, a', c', e, _⟩ | ⟨_, b', o', c', e, _⟩
    · rw [hf] at e; simp at e; omega
    · rw [hf] at e; simp at e; omega
  subst hf
  have hmm : decide ((1024 : Int) < (m : Int)) = false := by simp; omega
  clear hu
  go_wp2_with fail
  have q3 := ((q2.set (i := 0) (.bool false)).set (i := 1) (.slice a m c)).alloc (.cells #[.bool false, .slice a m c] 26)
  obtain ⟨e0, e1⟩ := q3.two
  refine bodyPost_ret (v := .tuple #[Wv (.slice a m c), .int .i64 0]) (by simp [results, Tryz.results190, go_sem, e0, e1]) rfl ?_
  have b3 := (((Below.refl w.heap.size w2).setCell (p := ⟨w.heap.size, 0, none⟩) (Nat.le_refl _) (.bool false)).setCell (p := ⟨w.heap.size, 1, none⟩) (Nat.le_refl _) (.slice a m c)).alloc (by simp [World.setCell]; omega) (.cells #[.bool false, .slice a m c] 26)
  have ws := ((hv'.set (r := w.heap.size) (i := 0) (x := .bool false) hnw (by simp)).set (r := w.heap.size) (i := 1) (x := .slice a m c) hnw (by simp))
  exact ⟨_, rfl, ws.below ((Below.refl _ _).alloc (Nat.le_refl _) _) (by simp [World.setCell]) (by simp [World.setCell]), hb2'.trans b3, hnw.mono (by simp)⟩
end Go.Proofs.YthooiobhlbnaoaaGreat
namespace Go.Proofs.YthooiobhlbnaoaaGreat
open Go.RowKit
set_option linter.unusedVariables false

theorem alloc4 (w : World) (c0 c1 c2 c3 : Array Value) (t0 t1 t2 t3 : TypeId) {W : World} (h : (((w.alloc (.cells c0 t0)).alloc (.cells c1 t1)).alloc (.cells c2 t2)).alloc (.cells c3 t3) = W) :
    Below w.heap.size w W ∧ Blk W w.heap.size c0 t0 ∧ Blk W (w.heap.size + 1) c1 t1 ∧ Blk W (w.heap.size + 2) c2 t2 ∧ Blk W (w.heap.size + 3) c3 t3 ∧ W.heap.size = w.heap.size + 4 := by
  subst h
  have q1 := Blk.new (w.alloc (.cells c0 t0)) c1 t1
  have q2 := Blk.new ((w.alloc (.cells c0 t0)).alloc (.cells c1 t1)) c2 t2
  have q3 := Blk.new (((w.alloc (.cells c0 t0)).alloc (.cells c1 t1)).alloc (.cells c2 t2)) c3 t3
  simp only [World.size_alloc] at q1 q2 q3
  exact ⟨((((Below.refl _ w).alloc (Nat.le_refl _) _).alloc (by simp) _).alloc (by simp; omega) _).alloc (by simp; omega) _, (((Blk.new w c0 t0).alloc _).alloc _).alloc _, (q1.alloc _).alloc _, q2.alloc _, q3, by simp⟩
theorem alloc3 (w : World) (c0 c1 c2 : Array Value) (t0 t1 t2 : TypeId) {W : World} (h : ((w.alloc (.cells c0 t0)).alloc (.cells c1 t1)).alloc (.cells c2 t2) = W) :
    Below w.heap.size w W ∧ Blk W w.heap.size c0 t0 ∧ Blk W (w.heap.size + 1) c1 t1 ∧ Blk W (w.heap.size + 2) c2 t2 ∧ W.heap.size = w.heap.size + 3 := by
  subst h
  have q1 := Blk.new (w.alloc (.cells c0 t0)) c1 t1
  have q2 := Blk.new ((w.alloc (.cells c0 t0)).alloc (.cells c1 t1)) c2 t2
  simp only [World.size_alloc] at q1 q2
  exact ⟨(((Below.refl _ w).alloc (Nat.le_refl _) _).alloc (by simp) _).alloc (by simp; omega) _, ((Blk.new w c0 t0).alloc _).alloc _, q1.alloc _, q2, by simp⟩

set_option maxRecDepth 10000 in
set_option maxHeartbeats 2000000 in
theorem wmul_any (K : Nat) (u v : Value) (m n : Nat) (w : World) (hu : Wd .u16 K w u m) (hv : Wd .u16 K w v n) (hK : K ≤ w.heap.size) (hmn : m * n < 65536) (hm : m < 65536) (hn : n < 65536) :
    Calls Tryz.prog 164 #[Wv u, Wv v] w fun e w' => ∃ v', e = .returned (.tuple #[Wv v', .int .i64 0]) ∧ Wd .u16 w'.heap.size w' v' (m * n) ∧ Below w.heap.size w w' ∧ NewV w.heap.size v' := by
  obtain ⟨ua, um, uc, rfl⟩ := hu.form
  obtain ⟨va, vm, vc, rfl⟩ := hv.form
  obtain ⟨W1, hW1⟩ : ∃ W1, (((w.alloc (.cells #[.bool false, .slice ua um uc] 26)).alloc (.cells #[.bool false, .slice va vm vc] 26)).alloc (.cells #[.bool false, .slice none 0 0] 26)).alloc (.cells #[.bool false, .slice ua um uc, .bool false, .slice va vm vc] 26) = W1 := ⟨_, rfl⟩
  obtain ⟨b1, q0, q1, q2, q3, s1⟩ := alloc4 w _ _ _ _ _ _ _ _ hW1
  have HW := Lib.hid hW1
  obtain ⟨B, hB⟩ : ∃ B, w.heap.size = B := ⟨_, rfl⟩
  have HB := Lib.hid hB
  rw [hB] at hK b1 q0 q1 q2 q3 s1 ⊢
  clear hB hW1
  go_enter Tryz.func164, Tryz.ntmps164
  go_wp2_with fail
  simp only [HB.out, Nat.add_assoc, Nat.reduceAdd]
  rw [HW.out]
  refine (wallvalid_any B (B + 3) _ _ m n W1 (hu.below b1 hK hK) (hv.below b1 hK hK) (by omega) q3).mono ?_
  rintro e w2 ⟨rfl, hb2⟩
  have b2 : Below B w w2 := b1.trans (hb2.mono (by omega))
  have hs2 := hb2.size
  have q0 := q0.below hb2 q0.lt
  have q1 := q1.below hb2 q1.lt
  have q2 := q2.below hb2 q2.lt
  have hu2 := hu.below b2 hK (show K ≤ w2.heap.size by omega)
  have hv2 := hv.below b2 hK (show K ≤ w2.heap.size by omega)
  have hu3 : Wd .u16 w2.heap.size w2 (.slice ua um uc) m := hu2.below (Below.refl w2.heap.size _) (by omega) (by omega)
  have hv3 : Wd .u16 w2.heap.size w2 (.slice va vm vc) n := hv2.below (Below.refl w2.heap.size _) (by omega) (by omega)
  obtain ⟨d0, d1⟩ := q0.two
  obtain ⟨d2, d3⟩ := q1.two
  go_upto_region 3 with fail
  clear d0 d1 d2 d3
  refine region_plain (fun W' => Below w2.heap.size w2 W') [15, 16] (by kernel_rfl) ?_
  have qS : (fun W' => Below w2.heap.size w2 W') w2.drew := below_quiet (Below.refl _ _)
  refine wpAnyD_take (i := 0) (v := .pointer (some ⟨B, 0, none⟩)) rfl (by kernel_rfl) (by kernel_rfl) (by kernel_rfl) (by kernel_rfl) (by kernel_rfl) (fun _ _ _ h => h) (.inl ⟨by kernel_rfl, fun W' hS => by go_simp⟩) qS ?_
  refine wpAnyD_take (i := 1) (v := .bool false) rfl (by kernel_rfl) (by kernel_rfl) (by kernel_rfl) (by kernel_rfl) (by kernel_rfl) (fun _ _ _ h => h) (.inl ⟨by kernel_rfl, fun W' hS => by have d0 := (q0.below hS q0.lt).at (i := 0) rfl; go_simp⟩) qS ?_
  refine wpAnyD_take (i := 2) (v := .pointer (some ⟨B + 1, 0, none⟩)) rfl (by kernel_rfl) (by kernel_rfl) (by kernel_rfl) (by kernel_rfl) (by kernel_rfl) (fun _ _ _ h => h) (.inl ⟨by kernel_rfl, fun W' hS => by go_simp⟩) qS ?_
  refine wpAnyD_take (i := 3) (v := .bool false) rfl (by kernel_rfl) (by kernel_rfl) (by kernel_rfl) (by kernel_rfl) (by kernel_rfl) (fun _ _ _ h => h) (.inl ⟨by kernel_rfl, fun W' hS => by have d0 := (q1.below hS q1.lt).at (i := 0) rfl; go_simp⟩) qS ?_
  refine wpAnyD_take (i := 4) (v := .bool false) rfl (by kernel_rfl) (by kernel_rfl) (by kernel_rfl) (by kernel_rfl) (by kernel_rfl) (fun _ _ _ h => h) (.inl ⟨by kernel_rfl, fun W' hS => by go_simp⟩) qS ?_
  refine wpAnyD_take (i := 5) (v := .pointer (some ⟨B, 1, none⟩)) rfl (by kernel_rfl) (by kernel_rfl) (by kernel_rfl) (by kernel_rfl) (by kernel_rfl) (fun _ _ _ h => h) (.inl ⟨by kernel_rfl, fun W' hS => by go_simp⟩) qS ?_
  refine wpAnyD_take (i := 6) (v := .slice ua um uc) rfl (by kernel_rfl) (by kernel_rfl) (by kernel_rfl) (by kernel_rfl) (by kernel_rfl) (fun _ _ _ h => h) (.inl ⟨by kernel_rfl, fun W' hS => by have d0 := (q0.below hS q0.lt).at (i := 1) rfl; go_simp⟩) qS ?_
  refine wpAnyD_take (i := 8) (v := .pointer (some ⟨B + 1, 1, none⟩)) rfl (by kernel_rfl) (by kernel_rfl) (by kernel_rfl) (by kernel_rfl) (by kernel_rfl) (fun _ _ _ h => h) (.inl ⟨by kernel_rfl, fun W' hS => by go_simp⟩) qS ?_
  refine wpAnyD_take (i := 9) (v := .slice va vm vc) rfl (by kernel_rfl) (by kernel_rfl) (by kernel_rfl) (by kernel_rfl) (by kernel_rfl) (fun _ _ _ h => h) (.inl ⟨by kernel_rfl, fun W' hS => by have d0 := (q1.below hS q1.lt).at (i := 1) rfl; go_simp⟩) qS ?_
  refine wpAnyD_one (i := 7) (by kernel_rfl) rfl (by kernel_rfl) ?_
  go_simp
  refine (pack_any w2.heap.size _ m _ (hu3.below qS (Nat.le_refl _) (Nat.le_refl _)) qS.size hm).mono ?_
  rintro e w3 ⟨p3, rfl, hp3, hb3⟩
  have qS3 : Below w2.heap.size w2 w3 := qS.trans (hb3.mono qS.size)
  obtain ⟨a3, m3, c3, rfl⟩ := hp3.form
  go_simp
  refine wpAnyD_one (i := 10) (by kernel_rfl) rfl (by kernel_rfl) ?_
  go_simp
  refine (pack_any w2.heap.size _ n _ (hv3.below qS3 (Nat.le_refl _) (Nat.le_refl _)) qS3.size hn).mono ?_
  rintro e w4 ⟨p4, rfl, hp4, hb4⟩
  have qS4 : Below w2.heap.size w2 w4 := qS3.trans (hb4.mono qS3.size)
  obtain ⟨a4, m4, c4, rfl⟩ := hp4.form
  go_simp
  refine wpAnyD_one (i := 11) (by kernel_rfl) rfl (by kernel_rfl) ?_
  go_simp
  refine (times_any w4.heap.size _ _ m n _ (hp3.below hb4 (Nat.le_refl _) hb4.size) hp4 (Nat.le_refl _) hmn hm hn).mono ?_
  rintro e w5 ⟨p5, rfl, hp5, hb5⟩
  have qS5 : Below w2.heap.size w2 w5 := qS4.trans (hb5.mono qS4.size)
  obtain ⟨a5, m5, c5, rfl⟩ := hp5.form
  go_simp
  refine wpAnyD_one (i := 12) (by kernel_rfl) rfl (by kernel_rfl) ?_
  go_simp
  refine (wresult_any w5.heap.size _ (m * n) _ hp5 (Nat.le_refl _) hmn).mono ?_
  rintro e w6 ⟨p6, rfl, hp6, hb6, hnw⟩
  have qS6 : Below w2.heap.size w2 w6 := qS5.trans (hb6.mono qS5.size)
  obtain ⟨a6, m6, c6, rfl⟩ := hp6.form
  go_simp
  refine wpAnyD_take (i := 13) (v := Wv (.slice a6 m6 c6)) rfl (by kernel_rfl) (by kernel_rfl) (by kernel_rfl) (by kernel_rfl) (by kernel_rfl) (fun _ _ _ h => h) (.inl ⟨by kernel_rfl, fun W' hS => by go_simp⟩) qS6 ?_
  refine wpAnyD_take (i := 14) (v := .int .i64 0) rfl (by kernel_rfl) (by kernel_rfl) (by kernel_rfl) (by kernel_rfl) (by kernel_rfl) (fun _ _ _ h => h) (.inl ⟨by kernel_rfl, fun W' hS => by go_simp⟩) qS6 ?_
  have q2s := q2.below qS6 q2.lt
  obtain ⟨e0, e1⟩ := q2s.two
  have f0 := q2s.free 0
  have f1 := q2s.free 1
  refine wpAnyD_one (i := 15) (by kernel_rfl) rfl (by kernel_rfl) ?_
  go_simp
  refine wpAnyD_one (i := 16) (by kernel_rfl) rfl (by kernel_rfl) ?_
  go_simp
  refine wpAnyD_done (by kernel_rfl) ?_ _
  go_wp2_with fail
  have q3s := (q2s.set (i := 0) (.bool false)).set (i := 1) (.slice a6 m6 c6)
  obtain ⟨e0, e1⟩ := q3s.two
  refine bodyPost_ret (v := .tuple #[Wv (.slice a6 m6 c6), .int .i64 0]) (by simp [results, Tryz.results164, go_sem, e0, e1]) rfl ?_
  have hBn : B + 2 < w5.heap.size := by have := qS5.size; omega
  have ws := ((hp6.set (r := B + 2) (i := 0) (x := .bool false) hnw hBn).set (r := B + 2) (i := 1) (x := .slice a6 m6 c6) hnw hBn)
  have b6 : Below B w w6 := b2.trans (qS6.mono (by omega))
  exact ⟨_, rfl, ws.below (Below.refl w6.heap.size _) (Nat.le_refl _) (by simp [World.setCell]), (b6.setCell (p := ⟨B + 2, 0, none⟩) (by simp) _).setCell (p := ⟨B + 2, 1, none⟩) (by simp) _, hnw.mono (by omega)⟩

set_option maxRecDepth 10000 in
set_option maxHeartbeats 2000000 in
theorem wgcd_any (K : Nat) (u v : Value) (m n : Nat) (w : World) (hu : Wd .u16 K w u m) (hv : Wd .u16 K w v n) (hK : K ≤ w.heap.size) (hm : m < 65536) (hn : n < 65536) :
    Calls Tryz.prog 184 #[Wv u, Wv v] w fun e w' => ∃ v', e = .returned (.tuple #[Wv v', .int .i64 0]) ∧ Wd .u16 w'.heap.size w' v' (Nat.gcd m n) ∧ Below w.heap.size w w' ∧ NewV w.heap.size v' := by
  have hg : Nat.gcd m n < 65536 := by
    by_cases h0 : m = 0
    · subst h0; simpa using hn
    · have := Nat.gcd_le_left n (show 0 < m by omega); omega
  obtain ⟨ua, um, uc, rfl⟩ := hu.form
  obtain ⟨va, vm, vc, rfl⟩ := hv.form
  obtain ⟨W1, hW1⟩ : ∃ W1, (((w.alloc (.cells #[.bool false, .slice ua um uc] 26)).alloc (.cells #[.bool false, .slice va vm vc] 26)).alloc (.cells #[.bool false, .slice none 0 0] 26)).alloc (.cells #[.bool false, .slice ua um uc, .bool false, .slice va vm vc] 26) = W1 := ⟨_, rfl⟩
  obtain ⟨b1, q0, q1, q2, q3, s1⟩ := alloc4 w _ _ _ _ _ _ _ _ hW1
  have HW := Lib.hid hW1
  obtain ⟨B, hB⟩ : ∃ B, w.heap.size = B := ⟨_, rfl⟩
  have HB := Lib.hid hB
  rw [hB] at hK b1 q0 q1 q2 q3 s1 ⊢
  clear hB hW1
  go_enter Tryz.func184, Tryz.ntmps184
  go_wp2_with fail
  simp only [HB.out, Nat.add_assoc, Nat.reduceAdd]
  rw [HW.out]
  refine (wallvalid_any B (B + 3) _ _ m n W1 (hu.below b1 hK hK) (hv.below b1 hK hK) (by omega) q3).mono ?_
  rintro e w2 ⟨rfl, hb2⟩
  have b2 : Below B w w2 := b1.trans (hb2.mono (by omega))
  have hs2 := hb2.size
  have q0 := q0.below hb2 q0.lt
  have q1 := q1.below hb2 q1.lt
  have q2 := q2.below hb2 q2.lt
  have hu2 := hu.below b2 hK (show K ≤ w2.heap.size by omega)
  have hv2 := hv.below b2 hK (show K ≤ w2.heap.size by omega)
  have hu3 : Wd .u16 w2.heap.size w2 (.slice ua um uc) m := hu2.below (Below.refl w2.heap.size _) (by omega) (by omega)
  have hv3 : Wd .u16 w2.heap.size w2 (.slice va vm vc) n := hv2.below (Below.refl w2.heap.size _) (by omega) (by omega)
  obtain ⟨d0, d1⟩ := q0.two
  obtain ⟨d2, d3⟩ := q1.two
  go_upto_region 3 with fail
  clear d0 d1 d2 d3
  refine region_plain (fun W' => Below w2.heap.size w2 W') [8, 9] (by kernel_rfl) ?_
  have qS : (fun W' => Below w2.heap.size w2 W') w2.drew := below_quiet (Below.refl _ _)
  refine wpAnyD_take (i := 0) (v := .pointer (some ⟨B, 1, none⟩)) rfl (by kernel_rfl) (by kernel_rfl) (by kernel_rfl) (by kernel_rfl) (by kernel_rfl) (fun _ _ _ h => h) (.inl ⟨by kernel_rfl, fun W' hS => by go_simp⟩) qS ?_
  refine wpAnyD_take (i := 1) (v := .slice ua um uc) rfl (by kernel_rfl) (by kernel_rfl) (by kernel_rfl) (by kernel_rfl) (by kernel_rfl) (fun _ _ _ h => h) (.inl ⟨by kernel_rfl, fun W' hS => by have d0 := (q0.below hS q0.lt).at (i := 1) rfl; go_simp⟩) qS ?_
  refine wpAnyD_take (i := 3) (v := .pointer (some ⟨B + 1, 1, none⟩)) rfl (by kernel_rfl) (by kernel_rfl) (by kernel_rfl) (by kernel_rfl) (by kernel_rfl) (fun _ _ _ h => h) (.inl ⟨by kernel_rfl, fun W' hS => by go_simp⟩) qS ?_
  refine wpAnyD_take (i := 4) (v := .slice va vm vc) rfl (by kernel_rfl) (by kernel_rfl) (by kernel_rfl) (by kernel_rfl) (by kernel_rfl) (fun _ _ _ h => h) (.inl ⟨by kernel_rfl, fun W' hS => by have d0 := (q1.below hS q1.lt).at (i := 1) rfl; go_simp⟩) qS ?_
  refine wpAnyD_one (i := 2) (by kernel_rfl) rfl (by kernel_rfl) ?_
  go_simp
  refine (pack_any w2.heap.size _ m _ (hu3.below qS (Nat.le_refl _) (Nat.le_refl _)) qS.size hm).mono ?_
  rintro e w3 ⟨p3, rfl, hp3, hb3⟩
  have qS3 : Below w2.heap.size w2 w3 := qS.trans (hb3.mono qS.size)
  obtain ⟨a3, m3, c3, rfl⟩ := hp3.form
  go_simp
  refine wpAnyD_one (i := 5) (by kernel_rfl) rfl (by kernel_rfl) ?_
  go_simp
  refine (pack_any w2.heap.size _ n _ (hv3.below qS3 (Nat.le_refl _) (Nat.le_refl _)) qS3.size hn).mono ?_
  rintro e w4 ⟨p4, rfl, hp4, hb4⟩
  have qS4 : Below w2.heap.size w2 w4 := qS3.trans (hb4.mono qS3.size)
  obtain ⟨a4, m4, c4, rfl⟩ := hp4.form
  go_simp
  refine wpAnyD_one (i := 6) (by kernel_rfl) rfl (by kernel_rfl) ?_
  go_simp
  refine (common_any w4.heap.size _ _ m n _ (hp3.below hb4 (Nat.le_refl _) hb4.size) hp4 (Nat.le_refl _) hm hn).mono ?_
  rintro e w5 ⟨p5, rfl, hp5, hb5⟩
  have qS5 : Below w2.heap.size w2 w5 := qS4.trans (hb5.mono qS4.size)
  obtain ⟨a5, m5, c5, rfl⟩ := hp5.form
  go_simp
  refine wpAnyD_one (i := 7) (by kernel_rfl) rfl (by kernel_rfl) ?_
  go_simp
  refine (unpack_any w5.heap.size _ _ _ hp5.pre (Nat.le_refl _) hg).mono ?_
  rintro e w6 ⟨p6, rfl, hp6, hb6, hnw⟩
  have qS6 : Below w2.heap.size w2 w6 := qS5.trans (hb6.mono qS5.size)
  obtain ⟨a6, m6, c6, rfl⟩ := hp6.form
  go_simp
  have q2s := q2.below qS6 q2.lt
  obtain ⟨e0, e1⟩ := q2s.two
  have f0 := q2s.free 0
  have f1 := q2s.free 1
  refine wpAnyD_one (i := 8) (by kernel_rfl) rfl (by kernel_rfl) ?_
  go_simp
  refine wpAnyD_one (i := 9) (by kernel_rfl) rfl (by kernel_rfl) ?_
  go_simp
  refine wpAnyD_done (by kernel_rfl) ?_ _
  go_wp2_with fail
  have q3s := (q2s.set (i := 0) (.bool false)).set (i := 1) (.slice a6 m6 c6)
  obtain ⟨e0, e1⟩ := q3s.two
  refine bodyPost_ret (v := .tuple #[Wv (.slice a6 m6 c6), .int .i64 0]) (by simp [results, Tryz.results184, go_sem, e0, e1]) rfl ?_
  have hBn : B + 2 < w5.heap.size := by have := qS5.size; omega
  have ws := ((hp6.set (r := B + 2) (i := 0) (x := .bool false) hnw hBn).set (r := B + 2) (i := 1) (x := .slice a6 m6 c6) hnw hBn)
  have b6 : Below B w w6 := b2.trans (qS6.mono (by omega))
  exact ⟨_, rfl, ws.below (Below.refl w6.heap.size _) (Nat.le_refl _) (by simp [World.setCell]), (b6.setCell (p := ⟨B + 2, 0, none⟩) (by simp) _).setCell (p := ⟨B + 2, 1, none⟩) (by simp) _, hnw.mono (by omega)⟩

set_option maxRecDepth 10000 in
set_option maxHeartbeats 2000000 in
theorem wcmp_any (K : Nat) (u v : Value) (m n : Nat) (w : World) (hu : Wd .u16 K w u m) (hv : Wd .u16 K w v n) (hK : K ≤ w.heap.size) (hm : m < 65536) (hn : n < 65536) :
    Calls Tryz.prog 147 #[Wv u, Wv v] w fun e w' => e = .returned (.int .i64 (if m < n then -1 else if n < m then 1 else 0)) ∧ Below w.heap.size w w' := by
  obtain ⟨cv, hcv⟩ : ∃ cv : Int, (if m < n then (-1 : Int) else if n < m then 1 else 0) = cv := ⟨_, rfl⟩
  have HCV := Lib.hid hcv
  rw [hcv]
  clear hcv
  obtain ⟨ua, um, uc, rfl⟩ := hu.form
  obtain ⟨va, vm, vc, rfl⟩ := hv.form
  obtain ⟨W1, hW1⟩ : ∃ W1, ((w.alloc (.cells #[.bool false, .slice ua um uc] 26)).alloc (.cells #[.bool false, .slice va vm vc] 26)).alloc (.cells #[.bool false, .slice ua um uc, .bool false, .slice va vm vc] 26) = W1 := ⟨_, rfl⟩
  obtain ⟨b1, q0, q1, q2, s1⟩ := alloc3 w _ _ _ _ _ _ hW1
  have HW := Lib.hid hW1
  obtain ⟨B, hB⟩ : ∃ B, w.heap.size = B := ⟨_, rfl⟩
  have HB := Lib.hid hB
  rw [hB] at hK b1 q0 q1 q2 s1 ⊢
  clear hB hW1
  go_enter Tryz.func147, Tryz.ntmps147
  go_wp2_with fail
  simp only [HB.out, Nat.add_assoc, Nat.reduceAdd]
  rw [HW.out]
  refine (wallvalid_any B (B + 2) _ _ m n W1 (hu.below b1 hK hK) (hv.below b1 hK hK) (by omega) q2).mono ?_
  rintro e w2 ⟨rfl, hb2⟩
  have b2 : Below B w w2 := b1.trans (hb2.mono (by omega))
  have hs2 := hb2.size
  have q0 := q0.below hb2 q0.lt
  have q1 := q1.below hb2 q1.lt
  have hu2 := hu.below b2 hK (show K ≤ w2.heap.size by omega)
  have hv2 := hv.below b2 hK (show K ≤ w2.heap.size by omega)
  have hu3 : Wd .u16 w2.heap.size w2 (.slice ua um uc) m := hu2.below (Below.refl w2.heap.size _) (by omega) (by omega)
  have hv3 : Wd .u16 w2.heap.size w2 (.slice va vm vc) n := hv2.below (Below.refl w2.heap.size _) (by omega) (by omega)
  obtain ⟨d0, d1⟩ := q0.two
  obtain ⟨d2, d3⟩ := q1.two
  go_upto_region 7 with fail
  clear d0 d1 d2 d3
  refine region_plain (fun W' => Below w2.heap.size w2 W') [] (by kernel_rfl) ?_
  have qS : (fun W' => Below w2.heap.size w2 W') w2.drew := below_quiet (Below.refl _ _)
  refine wpAnyD_take (i := 0) (v := .pointer (some ⟨B, 1, none⟩)) rfl (by kernel_rfl) (by kernel_rfl) (by kernel_rfl) (by kernel_rfl) (by kernel_rfl) (fun _ _ _ h => h) (.inl ⟨by kernel_rfl, fun W' hS => by go_simp⟩) qS ?_
  refine wpAnyD_take (i := 1) (v := .slice ua um uc) rfl (by kernel_rfl) (by kernel_rfl) (by kernel_rfl) (by kernel_rfl) (by kernel_rfl) (fun _ _ _ h => h) (.inl ⟨by kernel_rfl, fun W' hS => by have d0 := (q0.below hS q0.lt).at (i := 1) rfl; go_simp⟩) qS ?_
  refine wpAnyD_take (i := 3) (v := .pointer (some ⟨B + 1, 1, none⟩)) rfl (by kernel_rfl) (by kernel_rfl) (by kernel_rfl) (by kernel_rfl) (by kernel_rfl) (fun _ _ _ h => h) (.inl ⟨by kernel_rfl, fun W' hS => by go_simp⟩) qS ?_
  refine wpAnyD_take (i := 4) (v := .slice va vm vc) rfl (by kernel_rfl) (by kernel_rfl) (by kernel_rfl) (by kernel_rfl) (by kernel_rfl) (fun _ _ _ h => h) (.inl ⟨by kernel_rfl, fun W' hS => by have d0 := (q1.below hS q1.lt).at (i := 1) rfl; go_simp⟩) qS ?_
  refine wpAnyD_one (i := 2) (by kernel_rfl) rfl (by kernel_rfl) ?_
  go_simp
  refine (pack_any w2.heap.size _ m _ (hu3.below qS (Nat.le_refl _) (Nat.le_refl _)) qS.size hm).mono ?_
  rintro e w3 ⟨p3, rfl, hp3, hb3⟩
  have qS3 : Below w2.heap.size w2 w3 := qS.trans (hb3.mono qS.size)
  obtain ⟨a3, m3, c3, rfl⟩ := hp3.form
  go_simp
  refine wpAnyD_one (i := 5) (by kernel_rfl) rfl (by kernel_rfl) ?_
  go_simp
  refine (pack_any w2.heap.size _ n _ (hv3.below qS3 (Nat.le_refl _) (Nat.le_refl _)) qS3.size hn).mono ?_
  rintro e w4 ⟨p4, rfl, hp4, hb4⟩
  have qS4 : Below w2.heap.size w2 w4 := qS3.trans (hb4.mono qS3.size)
  obtain ⟨a4, m4, c4, rfl⟩ := hp4.form
  go_simp
  refine wpAnyD_one (i := 6) (by kernel_rfl) rfl (by kernel_rfl) ?_
  go_simp
  have hc := compare_any w4.heap.size _ _ m n _ (hp3.below hb4 (Nat.le_refl _) hb4.size) hp4
  rw [HCV.out] at hc
  refine hc.mono ?_
  rintro e w5 ⟨rfl, k5, rfl⟩
  have qS5 : Below w2.heap.size w2 (w4.drewN k5) := below_drewN2 qS4 _
  have q05 := (q0.below qS5 q0.lt).two.1
  go_simp
  refine wpAnyD_one (i := 7) (by kernel_rfl) rfl (by kernel_rfl) ?_
  go_simp
  refine wpAnyD_done (by kernel_rfl) ?_ _
  go_wp2_with fail
  go_ret
  exact ⟨rfl, b2.trans (qS5.mono (by omega))⟩
end Go.Proofs.YthooiobhlbnaoaaGreat
namespace Go.Proofs.YthooiobhlbnaoaaGreat
open Go.RowKit
set_option linter.unusedVariables false

abbrev Fv (u v : Value) : Value := .agg #[.bool false, u, .bool false, v]
theorem isone_any (K : Nat) (v : Value) (n : Nat) (w : World) (h : Wd .u16 K w v n) (hK : K ≤ w.heap.size) : Calls Tryz.prog 154 #[Wv v] w fun e w' => e = .returned (.bool (n == 1)) ∧ Below w.heap.size w w' := by
  rcases h with ⟨rfl, a, c, rfl, hc⟩ | ⟨h0, b, o, c, rfl, h1, hc, hb, h5⟩
  · go_enter Tryz.func154, Tryz.ntmps154
    go_wp2_with fail
    go_ret
    exact ⟨rfl, (Below.refl _ w).alloc (Nat.le_refl _) _⟩
  · have hlt : b < w.heap.size := by omega
    have hne : ¬ b = w.heap.size := by omega
    by_cases hn : n = 1
    · subst hn
      go_enter Tryz.func154, Tryz.ntmps154
      go_wp2_with fail
      go_ret
      exact ⟨rfl, (Below.refl _ w).alloc (Nat.le_refl _) _⟩
    · have hx : ((n : Int) == 1) = false := by simp; omega
      have hy : (n == 1) = false := by simp; omega
      rw [hy]
      go_enter Tryz.func154, Tryz.ntmps154
      go_wp2_with fail
      go_ret
      exact ⟨rfl, (Below.refl _ w).alloc (Nat.le_refl _) _⟩
theorem Wd.len {q : IntKind} {K : Nat} {w : World} {n : Nat} {a : Option Addr} {m c : Nat} (h : Wd q K w (.slice a m c) n) : m ≤ 1 ∧ (m = 0 ↔ n = 0) := by
  rcases h with ⟨h0, a', c', e, _⟩ | ⟨h0, b', o', c', e, _⟩
  · simp only [Value.slice.injEq] at e; omega
  · simp only [Value.slice.injEq] at e; omega

set_option maxRecDepth 10000 in
set_option maxHeartbeats 2000000 in
theorem fdivisor_any (K : Nat) (u v : Value) (m n : Nat) (w : World) (hu : Wd .u16 K w u m) (hv : Wd .u16 K w v n) (hK : K ≤ w.heap.size) (hm : m < 65536) (hn : n < 65536) :
    Calls Tryz.prog 155 #[Wv u, Wv v] w fun e w' => ∃ v', e = .returned (Wv v') ∧ Wd .u16 w'.heap.size w' v' (Nat.gcd m n) ∧ Below w.heap.size w w' ∧ NewV w.heap.size v' := by
  obtain ⟨ua, um, uc, rfl⟩ := hu.form
  obtain ⟨va, vm, vc, rfl⟩ := hv.form
  obtain ⟨W1, hW1⟩ : ∃ W1, ((w.alloc (.cells #[.bool false, .slice ua um uc] 26)).alloc (.cells #[.bool false, .slice va vm vc] 26)).alloc (.cells #[.bool false, .slice none 0 0] 26) = W1 := ⟨_, rfl⟩
  obtain ⟨b1, q0, q1, q2, s1⟩ := alloc3 w _ _ _ _ _ _ hW1
  have HW := Lib.hid hW1
  obtain ⟨B, hB⟩ : ∃ B, w.heap.size = B := ⟨_, rfl⟩
  have HB := Lib.hid hB
  rw [hB] at hK b1 q0 q1 q2 s1 ⊢
  have hc := wgcd_any B _ _ m n W1 (hu.below b1 hK hK) (hv.below b1 hK hK) (by omega) hm hn
  clear hB hW1
  go_enter Tryz.func155, Tryz.ntmps155
  go_wp2_with fail
  simp only [HB.out, Nat.add_assoc, Nat.reduceAdd]
  rw [HW.out]
  refine hc.mono ?_
  rintro e w2 ⟨p, rfl, hp, hb2, hnw⟩
  obtain ⟨pa, pm, pc, rfl⟩ := hp.form
  have b2 : Below B w w2 := b1.trans (hb2.mono (by omega))
  have hs2 := hb2.size
  have q2 := q2.below hb2 q2.lt
  obtain ⟨d0, d1⟩ := q2.two
  have f0 := q2.free 0
  have f1 := q2.free 1
  have hlt := q2.lt
  have hne : ¬ B + 2 = w2.heap.size := by omega
  clear hc
  go_wp2_with fail
  have q3 := ((q2.alloc (.cells #[.bool false, .slice pa pm pc] 26)).set (i := 0) (.bool false)).set (i := 1) (.slice pa pm pc)
  have q4 := ((q2.set (i := 0) (.bool false)).set (i := 1) (.slice pa pm pc)).alloc (.cells #[.bool false, .slice pa pm pc] 26)
  obtain ⟨e0, e1⟩ := q3.two
  obtain ⟨e2, e3⟩ := q4.two
  refine bodyPost_ret (v := Wv (.slice pa pm pc)) (by simp [results, Tryz.results155, go_sem, e2, e3]) rfl ?_
  have ws := ((hp.set (r := B + 2) (i := 0) (x := .bool false) hnw (by omega)).set (r := B + 2) (i := 1) (x := .slice pa pm pc) hnw (by omega))
  have b3 := (((Below.refl B w2).setCell (p := ⟨B + 2, 0, none⟩) (by simp) (.bool false)).setCell (p := ⟨B + 2, 1, none⟩) (by simp) (.slice pa pm pc)).alloc (by simp [World.setCell]; omega) (.cells #[.bool false, .slice pa pm pc] 26)
  exact ⟨_, rfl, ws.below ((Below.refl _ _).alloc (Nat.le_refl _) _) (by simp [World.setCell]) (by simp [World.setCell]), b2.trans b3, hnw.mono (by omega)⟩

set_option maxRecDepth 10000 in
set_option maxHeartbeats 2000000 in
theorem ftimes_any (K : Nat) (u v : Value) (m n : Nat) (w : World) (hu : Wd .u16 K w u m) (hv : Wd .u16 K w v n) (hK : K ≤ w.heap.size) (hmn : m * n < 65536) (hm : m < 65536) (hn : n < 65536) :
    Calls Tryz.prog 138 #[Wv u, Wv v] w fun e w' => ∃ v', e = .returned (Wv v') ∧ Wd .u16 w'.heap.size w' v' (m * n) ∧ Below w.heap.size w w' ∧ NewV w.heap.size v' := by
  obtain ⟨ua, um, uc, rfl⟩ := hu.form
  obtain ⟨va, vm, vc, rfl⟩ := hv.form
  obtain ⟨W1, hW1⟩ : ∃ W1, ((w.alloc (.cells #[.bool false, .slice ua um uc] 26)).alloc (.cells #[.bool false, .slice va vm vc] 26)).alloc (.cells #[.bool false, .slice none 0 0] 26) = W1 := ⟨_, rfl⟩
  obtain ⟨b1, q0, q1, q2, s1⟩ := alloc3 w _ _ _ _ _ _ hW1
  have HW := Lib.hid hW1
  obtain ⟨B, hB⟩ : ∃ B, w.heap.size = B := ⟨_, rfl⟩
  have HB := Lib.hid hB
  rw [hB] at hK b1 q0 q1 q2 s1 ⊢
  have hc := wmul_any B _ _ m n W1 (hu.below b1 hK hK) (hv.below b1 hK hK) (by omega) hmn hm hn
  clear hB hW1
  go_enter Tryz.func138, Tryz.ntmps138
  go_wp2_with fail
  simp only [HB.out, Nat.add_assoc, Nat.reduceAdd]
  rw [HW.out]
  refine hc.mono ?_
  rintro e w2 ⟨p, rfl, hp, hb2, hnw⟩
  obtain ⟨pa, pm, pc, rfl⟩ := hp.form
  have b2 : Below B w w2 := b1.trans (hb2.mono (by omega))
  have hs2 := hb2.size
  have q2 := q2.below hb2 q2.lt
  obtain ⟨d0, d1⟩ := q2.two
  have f0 := q2.free 0
  have f1 := q2.free 1
  have hlt := q2.lt
  have hne : ¬ B + 2 = w2.heap.size := by omega
  clear hc
  go_wp2_with fail
  have q3 := ((q2.alloc (.cells #[.bool false, .slice pa pm pc] 26)).set (i := 0) (.bool false)).set (i := 1) (.slice pa pm pc)
  have q4 := ((q2.set (i := 0) (.bool false)).set (i := 1) (.slice pa pm pc)).alloc (.cells #[.bool false, .slice pa pm pc] 26)
  obtain ⟨e0, e1⟩ := q3.two
  obtain ⟨e2, e3⟩ := q4.two
  refine bodyPost_ret (v := Wv (.slice pa pm pc)) (by simp [results, Tryz.results138, go_sem, e2, e3]) rfl ?_
  have ws := ((hp.set (r := B + 2) (i := 0) (x := .bool false) hnw (by omega)).set (r := B + 2) (i := 1) (x := .slice pa pm pc) hnw (by omega))
  have b3 := (((Below.refl B w2).setCell (p := ⟨B + 2, 0, none⟩) (by simp) (.bool false)).setCell (p := ⟨B + 2, 1, none⟩) (by simp) (.slice pa pm pc)).alloc (by simp [World.setCell]; omega) (.cells #[.bool false, .slice pa pm pc] 26)
  exact ⟨_, rfl, ws.below ((Below.refl _ _).alloc (Nat.le_refl _) _) (by simp [World.setCell]) (by simp [World.setCell]), b2.trans b3, hnw.mono (by omega)⟩

theorem flong_any (K : Nat) (u v : Value) (m n : Nat) (w : World) (hu : Wd .u16 K w u m) (hv : Wd .u16 K w v n) : Calls Tryz.prog 151 #[Fv u v] w fun e w' => e = .returned (.bool false) ∧ Below w.heap.size w w' := by
  obtain ⟨ua, um, uc, rfl⟩ := hu.form
  obtain ⟨va, vm, vc, rfl⟩ := hv.form
  have h1 : decide ((256 : Int) < (um : Int)) = false := by have := hu.len; simp; omega
  have h2 : decide ((256 : Int) < (vm : Int)) = false := by have := hv.len; simp; omega
  go_enter Tryz.func151, Tryz.ntmps151
  go_wp2_with fail
  go_ret
  exact ⟨rfl, (Below.refl _ w).alloc (Nat.le_refl _) _⟩
theorem fintegral_any (K : Nat) (u v : Value) (n : Nat) (w : World) (hu : u.oneCell' = true) (hv : Wd .u16 K w v n) (hK : K ≤ w.heap.size) : Calls Tryz.prog 153 #[Fv u v] w fun e w' => e = .returned (.bool (n == 1)) ∧ Below w.heap.size w w' := by
  obtain ⟨va, vm, vc, rfl⟩ := hv.form
  have b1 : Below w.heap.size w (w.alloc (.cells #[.bool false, u, .bool false, .slice va vm vc] 161)) := (Below.refl _ _).alloc (Nat.le_refl _) _
  have hc := isone_any w.heap.size _ n _ (hv.below b1 hK hK) (by simp)
  obtain ⟨r, hr⟩ : ∃ r, (n == 1) = r := ⟨_, rfl⟩
  rw [hr] at hc ⊢
  clear hr
  cases u <;> simp [Value.oneCell'] at hu
  all_goals
    go_enter Tryz.func153, Tryz.ntmps153
    go_wp2_with fail
    refine hc.mono ?_
    rintro e w2 ⟨rfl, hb2⟩
    go_wp2_with fail
    go_ret
    exact ⟨rfl, b1.trans (hb2.mono (by simp))⟩
end Go.Proofs.YthooiobhlbnaoaaGreat
namespace Go.Proofs.YthooiobhlbnaoaaGreat
open Go.RowKit
set_option linter.unusedVariables false

/-- A fraction in lowest terms, small. -/
def FrOk (m n : Nat) : Prop := m < 65536 ∧ n < 65536 ∧ 0 < n ∧ (n = 1 ∨ Nat.gcd m n = 1)

set_option maxRecDepth 10000 in
set_option maxHeartbeats 2000000 in
theorem fvalid_any (K : Nat) (u v : Value) (m n : Nat) (w : World) (hu : Wd .u16 K w u m) (hv : Wd .u16 K w v n) (hK : K ≤ w.heap.size) (ho : FrOk m n) :
    Calls Tryz.prog 128 #[Fv u v] w fun e w' => e = .returned (.bool true) ∧ Below w.heap.size w w' := by
  obtain ⟨hm, hn, hn0, hg⟩ := ho
  obtain ⟨ua, um, uc, rfl⟩ := hu.form
  obtain ⟨va, vm, vc, rfl⟩ := hv.form
  have hvm : vm = 1 := by have := hv.len; omega
  subst hvm
  obtain ⟨W1, hW1⟩ : ∃ W1, w.alloc (.cells #[.bool false, .slice ua um uc, .bool false, .slice va 1 vc] 161) = W1 := ⟨_, rfl⟩
  have q1 : Blk W1 w.heap.size #[.bool false, .slice ua um uc, .bool false, .slice va 1 vc] 161 := by rw [← hW1]; exact Blk.new w _ _
  have b1 : Below w.heap.size w W1 := by rw [← hW1]; exact (Below.refl _ _).alloc (Nat.le_refl _) _
  have s1 : W1.heap.size = w.heap.size + 1 := by rw [← hW1]; simp
  obtain ⟨B, hB⟩ : ∃ B, w.heap.size = B := ⟨_, rfl⟩
  have HB := Lib.hid hB
  have HW := Lib.hid hW1
  rw [hB] at hK b1 q1 s1 ⊢
  clear hB hW1
  go_enter Tryz.func128, Tryz.ntmps128
  go_upto_region 1 with fail
  simp only [HB.out]
  rw [HW.out]
  obtain ⟨c0, c1, c2, c3⟩ := q1.four
  go_wp2_with fail
  refine (flong_any B _ _ m n W1 (hu.below b1 hK hK) (hv.below b1 hK hK)).mono ?_
  rintro e w2 ⟨rfl, hb2⟩
  clear c0 c1 c2 c3
  have b2 : Below B w w2 := b1.trans (hb2.mono (by omega))
  have q2 := q1.below hb2 q1.lt
  obtain ⟨c0, c1, c2, c3⟩ := q2.four
  go_wp2_with fail
  refine (wvalid_any B _ m w2 (hu.below b2 hK hK) (by have := hb2.size; omega)).mono ?_
  rintro e w3 ⟨rfl, hb3⟩
  clear c0 c1 c2 c3
  have b3 : Below B w w3 := b2.trans (hb3.mono (by have := hb2.size; omega))
  have q3 := q2.below hb3 q2.lt
  obtain ⟨c0, c1, c2, c3⟩ := q3.four
  have l3 := q3.lt
  go_wp2_with fail
  refine (wvalid_any B _ n w3 (hv.below b3 hK hK) (by omega)).mono ?_
  rintro e w4 ⟨rfl, hb4⟩
  clear c0 c1 c2 c3
  have b4 : Below B w w4 := b3.trans (hb4.mono (by omega))
  have q4 := q3.below hb4 q3.lt
  obtain ⟨c0, c1, c2, c3⟩ := q4.four
  have l4 := q4.lt
  have hi := fintegral_any B (.slice ua um uc) _ n w4 rfl (hv.below b4 hK hK) (by omega)
  by_cases h1 : n = 1
  · subst h1
    go_wp2_with fail
    refine hi.mono ?_
    rintro e w5 ⟨rfl, hb5⟩
    go_wp2_with fail
    go_ret
    exact ⟨rfl, b4.trans (hb5.mono (by omega))⟩
  · have hx : (n == 1) = false := by simp; omega
    have hgg : Nat.gcd m n = 1 := by omega
    rw [hx] at hi
    go_wp2_with fail
    refine hi.mono ?_
    rintro e w5 ⟨rfl, hb5⟩
    clear c0 c1 c2 c3 hi
    have b5 : Below B w w5 := b4.trans (hb5.mono (by omega))
    have q5 := q4.below hb5 q4.lt
    obtain ⟨c0, c1, c2, c3⟩ := q5.four
    have l5 := q5.lt
    have hd := fdivisor_any B _ _ m n w5 (hu.below b5 hK hK) (hv.below b5 hK hK) (by omega) hm hn
    rw [hgg] at hd
    clear hgg
    go_wp2_with fail
    refine hd.mono ?_
    rintro e w6 ⟨p, rfl, hp, hb6, _⟩
    have ho := isone_any w6.heap.size p 1 w6 hp (Nat.le_refl _)
    obtain ⟨pa, pm, pc, rfl⟩ := hp.form
    clear hd
    go_wp2_with fail
    refine ho.mono ?_
    rintro e w7 ⟨rfl, hb7⟩
    go_wp2_with fail
    go_ret
    exact ⟨rfl, b5.trans ((hb6.mono (by omega)).trans (hb7.mono (by have := hb6.size; omega)))⟩

theorem fValid_any (K : Nat) (u v : Value) (m n : Nat) (w : World) (hu : Wd .u16 K w u m) (hv : Wd .u16 K w v n) (hK : K ≤ w.heap.size) (ho : FrOk m n) :
    Calls Tryz.prog 103 #[Fv u v] w fun e w' => e = .returned (.bool true) ∧ Below w.heap.size w w' := by
  have b1 : Below w.heap.size w (w.alloc (.cells #[.bool false, u, .bool false, v] 28)) := (Below.refl _ _).alloc (Nat.le_refl _) _
  have hc := fvalid_any w.heap.size u v m n _ (hu.below b1 hK hK) (hv.below b1 hK hK) (by simp) ho
  obtain ⟨ua, um, uc, rfl⟩ := hu.form
  obtain ⟨va, vm, vc, rfl⟩ := hv.form
  go_enter Tryz.func103, Tryz.ntmps103
  go_wp2_with fail
  refine hc.mono ?_
  rintro e w2 ⟨rfl, hb2⟩
  go_wp2_with fail
  go_ret
  exact ⟨rfl, b1.trans (hb2.mono (by simp))⟩

theorem fNot_any (K : Nat) (u v : Value) (m n : Nat) (w : World) (hu : Wd .u16 K w u m) (hv : Wd .u16 K w v n) (hK : K ≤ w.heap.size) (ho : FrOk m n) :
    Calls Tryz.prog 160 #[Fv u v] w fun e w' => e = .returned (.bool false) ∧ Below w.heap.size w w' := by
  have b1 : Below w.heap.size w (w.alloc (.cells #[.bool false, u, .bool false, v] 28)) := (Below.refl _ _).alloc (Nat.le_refl _) _
  have hc := fValid_any w.heap.size u v m n _ (hu.below b1 hK hK) (hv.below b1 hK hK) (by simp) ho
  obtain ⟨ua, um, uc, rfl⟩ := hu.form
  obtain ⟨va, vm, vc, rfl⟩ := hv.form
  go_enter Tryz.func160, Tryz.ntmps160
  go_wp2_with fail
  refine hc.mono ?_
  rintro e w2 ⟨rfl, hb2⟩
  go_wp2_with fail
  go_ret
  exact ⟨rfl, b1.trans (hb2.mono (by simp))⟩
end Go.Proofs.YthooiobhlbnaoaaGreat
namespace Go.Proofs.YthooiobhlbnaoaaGreat
open Go.RowKit
set_option linter.unusedVariables false

/-- Two fractions that lie one behind the other. -/
theorem Blk.eight {w : World} {b t : Nat} {x0 x1 x2 x3 x4 x5 x6 x7 : Value} (h : Blk w b #[x0, x1, x2, x3, x4, x5, x6, x7] t) : w.cell? ⟨b, 0, none⟩ = some x0 ∧ w.cell? ⟨b, 1, none⟩ = some x1 ∧ w.cell? ⟨b, 2, none⟩ = some x2 ∧
    w.cell? ⟨b, 3, none⟩ = some x3 ∧ w.cell? ⟨b, 4, none⟩ = some x4 ∧ w.cell? ⟨b, 5, none⟩ = some x5 ∧ w.cell? ⟨b, 6, none⟩ = some x6 ∧ w.cell? ⟨b, 7, none⟩ = some x7 :=
  ⟨h.at rfl, h.at rfl, h.at rfl, h.at rfl, h.at rfl, h.at rfl, h.at rfl, h.at rfl⟩
set_option maxRecDepth 10000 in
set_option maxHeartbeats 2000000 in
theorem idxFrac_any (K b : Nat) (u v x y : Value) (m n p q : Nat) (w : World) (hu : Wd .u16 K w u m) (hv : Wd .u16 K w v n) (hx : Wd .u16 K w x p) (hy : Wd .u16 K w y q) (hK : K ≤ w.heap.size) (h1 : FrOk m n) (h2 : FrOk p q)
    (hq : Blk w b #[.bool false, u, .bool false, v, .bool false, x, .bool false, y] 28) :
    Calls Tryz.prog 187 #[.slice (some ⟨b, 0, none⟩) 2 2, .func (.func 160) #[] #[]] w fun e w' => e = .returned (.int .i64 (-1)) ∧ Below w.heap.size w w' := by
  have hcf := fNot_any K u v m n w hu hv hK h1
  have hb := hq.lt
  have hc2 : ∀ W, Below w.heap.size w W → Calls Tryz.prog 160 #[Fv x y] W fun e w' => e = .returned (.bool false) ∧ Below W.heap.size W w' := fun W hb => fNot_any W.heap.size x y p q W (hx.below hb hK (Nat.le_trans hK hb.size)) (hy.below hb hK (Nat.le_trans hK hb.size)) (Nat.le_refl _) h2
  obtain ⟨ua, um, uc, rfl⟩ := hu.form
  obtain ⟨va, vm, vc, rfl⟩ := hv.form
  obtain ⟨xa, xm, xc, rfl⟩ := hx.form
  obtain ⟨ya, ym, yc, rfl⟩ := hy.form
  obtain ⟨d0, d1, d2, d3, d4, d5, d6, d7⟩ := hq.eight
  go_enter Tryz.func187, Tryz.ntmps187
  go_wp2_with fail
  refine wp_loop_rounds 3 ?_
  rw [rounds_succ]
  go_wp2_with fail
  refine hcf.mono ?_
  rintro e w2 ⟨rfl, hb2⟩
  clear d0 d1 d2 d3 d4 d5 d6 d7
  obtain ⟨d0, d1, d2, d3, d4, d5, d6, d7⟩ := (hq.below hb2 hb).eight
  go_wp2_with fail
  rw [rounds_succ]
  go_wp2_with fail
  refine (hc2 w2 hb2).mono ?_
  rintro e w3 ⟨rfl, hb3⟩
  go_wp2_with fail
  rw [rounds_succ]
  go_wp2_with fail
  go_ret
  exact ⟨rfl, hb2.trans (hb3.mono hb2.size)⟩
theorem fallvalid_any (K b : Nat) (u v x y : Value) (m n p q : Nat) (w : World) (hu : Wd .u16 K w u m) (hv : Wd .u16 K w v n) (hx : Wd .u16 K w x p) (hy : Wd .u16 K w y q) (hK : K ≤ w.heap.size) (h1 : FrOk m n) (h2 : FrOk p q)
    (hq : Blk w b #[.bool false, u, .bool false, v, .bool false, x, .bool false, y] 28) :
    Calls Tryz.prog 135 #[.slice (some ⟨b, 0, none⟩) 2 2] w fun e w' => e = .returned (.bool true) ∧ Below w.heap.size w w' := by
  have hi := idxFrac_any K b u v x y m n p q w hu hv hx hy hK h1 h2 hq
  have hc : Calls Tryz.prog 159 #[.slice (some ⟨b, 0, none⟩) 2 2, .func (.func 160) #[] #[]] w fun e w' => e = .returned (.bool false) ∧ Below w.heap.size w w' := by
    go_enter Tryz.func159, Tryz.ntmps159
    go_wp2_with fail
    refine hi.mono ?_
    rintro e w2 ⟨rfl, hb2⟩
    go_wp2_with fail
    go_ret
    exact ⟨rfl, hb2⟩
  clear hi
  go_enter Tryz.func135, Tryz.ntmps135
  go_wp2_with fail
  refine hc.mono ?_
  rintro e w2 ⟨rfl, hb2⟩
  go_wp2_with fail
  go_ret
  exact ⟨rfl, hb2⟩

set_option maxRecDepth 10000 in
set_option maxHeartbeats 2000000 in
theorem fcmp_any (K : Nat) (u v x y : Value) (m n p q : Nat) (w : World) (hu : Wd .u16 K w u m) (hv : Wd .u16 K w v n) (hx : Wd .u16 K w x p) (hy : Wd .u16 K w y q) (hK : K ≤ w.heap.size) (h1 : FrOk m n) (h2 : FrOk p q) (hmn3 : m * q < 65536) (hmn4 : p * n < 65536) :
    Calls Tryz.prog 119 #[Fv u v, Fv x y] w fun e w' => e = .returned (.int .i64 (if m * q < p * n then -1 else if p * n < m * q then 1 else 0)) ∧ Below w.heap.size w w' := by
  obtain ⟨cv, hcv⟩ : ∃ cv : Int, (if m * q < p * n then (-1 : Int) else if p * n < m * q then 1 else 0) = cv := ⟨_, rfl⟩
  have HCV := Lib.hid hcv
  rw [hcv]
  clear hcv
  obtain ⟨ua, um, uc, rfl⟩ := hu.form
  obtain ⟨va, vm, vc, rfl⟩ := hv.form
  obtain ⟨xa, xm, xc, rfl⟩ := hx.form
  obtain ⟨ya, ym, yc, rfl⟩ := hy.form
  obtain ⟨W1, hW1⟩ : ∃ W1, ((w.alloc (.cells #[.bool false, .slice ua um uc, .bool false, .slice va vm vc] 28)).alloc (.cells #[.bool false, .slice xa xm xc, .bool false, .slice ya ym yc] 28)).alloc (.cells #[.bool false, .slice ua um uc, .bool false, .slice va vm vc, .bool false, .slice xa xm xc, .bool false, .slice ya ym yc] 28) = W1 := ⟨_, rfl⟩
  obtain ⟨b1, q0, q1, q2, s1⟩ := alloc3 w _ _ _ _ _ _ hW1
  have HW := Lib.hid hW1
  obtain ⟨B, hB⟩ : ∃ B, w.heap.size = B := ⟨_, rfl⟩
  have HB := Lib.hid hB
  rw [hB] at hK b1 q0 q1 q2 s1 ⊢
  have hav := fallvalid_any B (B + 2) _ _ _ _ m n p q W1 (hu.below b1 hK hK) (hv.below b1 hK hK) (hx.below b1 hK hK) (hy.below b1 hK hK) (by omega) h1 h2 q2
  clear hB hW1
  go_enter Tryz.func119, Tryz.ntmps119
  go_wp2_with fail
  simp only [HB.out, Nat.add_assoc, Nat.reduceAdd]
  rw [HW.out]
  refine hav.mono ?_
  rintro e w2 ⟨rfl, hb2⟩
  clear hav
  have b2 : Below B w w2 := b1.trans (hb2.mono (by omega))
  have hs2 := hb2.size
  have q0 := q0.below hb2 q0.lt
  have q1 := q1.below hb2 q1.lt
  have hu2 := hu.below b2 hK (show K ≤ w2.heap.size by omega)
  have hu3 : Wd .u16 w2.heap.size w2 (.slice ua um uc) m := hu2.below (Below.refl w2.heap.size _) (by omega) (by omega)
  have hv2 := hv.below b2 hK (show K ≤ w2.heap.size by omega)
  have hv3 : Wd .u16 w2.heap.size w2 (.slice va vm vc) n := hv2.below (Below.refl w2.heap.size _) (by omega) (by omega)
  have hx2 := hx.below b2 hK (show K ≤ w2.heap.size by omega)
  have hx3 : Wd .u16 w2.heap.size w2 (.slice xa xm xc) p := hx2.below (Below.refl w2.heap.size _) (by omega) (by omega)
  have hy2 := hy.below b2 hK (show K ≤ w2.heap.size by omega)
  have hy3 : Wd .u16 w2.heap.size w2 (.slice ya ym yc) q := hy2.below (Below.refl w2.heap.size _) (by omega) (by omega)
  go_upto_region 3 with fail
  refine region_plain (fun W' => Below w2.heap.size w2 W') [] (by kernel_rfl) ?_
  have qS : (fun W' => Below w2.heap.size w2 W') w2.drew := below_quiet (Below.refl _ _)
  refine wpAnyD_take (i := 0) (v := .pointer (some ⟨B, 0, none⟩)) rfl (by kernel_rfl) (by kernel_rfl) (by kernel_rfl) (by kernel_rfl) (by kernel_rfl) (fun _ _ _ h => h) (.inl ⟨by kernel_rfl, fun W' hS => by go_simp⟩) qS ?_
  refine wpAnyD_take (i := 1) (v := .agg #[.bool false, .slice ua um uc]) rfl (by kernel_rfl) (by kernel_rfl) (by kernel_rfl) (by kernel_rfl) (by kernel_rfl) (fun _ _ _ h => h) (.inl ⟨by kernel_rfl, fun W' hS => by have d0 := (q0.below hS q0.lt).at (i := 0) rfl; have d1 := (q0.below hS q0.lt).at (i := 1) rfl; go_simp⟩) qS ?_
  refine wpAnyD_take (i := 2) (v := .pointer (some ⟨B + 1, 2, none⟩)) rfl (by kernel_rfl) (by kernel_rfl) (by kernel_rfl) (by kernel_rfl) (by kernel_rfl) (fun _ _ _ h => h) (.inl ⟨by kernel_rfl, fun W' hS => by go_simp⟩) qS ?_
  refine wpAnyD_take (i := 3) (v := .agg #[.bool false, .slice ya ym yc]) rfl (by kernel_rfl) (by kernel_rfl) (by kernel_rfl) (by kernel_rfl) (by kernel_rfl) (fun _ _ _ h => h) (.inl ⟨by kernel_rfl, fun W' hS => by have d0 := (q1.below hS q1.lt).at (i := 2) rfl; have d1 := (q1.below hS q1.lt).at (i := 3) rfl; go_simp⟩) qS ?_
  refine wpAnyD_take (i := 5) (v := .pointer (some ⟨B + 1, 0, none⟩)) rfl (by kernel_rfl) (by kernel_rfl) (by kernel_rfl) (by kernel_rfl) (by kernel_rfl) (fun _ _ _ h => h) (.inl ⟨by kernel_rfl, fun W' hS => by go_simp⟩) qS ?_
  refine wpAnyD_take (i := 6) (v := .agg #[.bool false, .slice xa xm xc]) rfl (by kernel_rfl) (by kernel_rfl) (by kernel_rfl) (by kernel_rfl) (by kernel_rfl) (fun _ _ _ h => h) (.inl ⟨by kernel_rfl, fun W' hS => by have d0 := (q1.below hS q1.lt).at (i := 0) rfl; have d1 := (q1.below hS q1.lt).at (i := 1) rfl; go_simp⟩) qS ?_
  refine wpAnyD_take (i := 7) (v := .pointer (some ⟨B, 2, none⟩)) rfl (by kernel_rfl) (by kernel_rfl) (by kernel_rfl) (by kernel_rfl) (by kernel_rfl) (fun _ _ _ h => h) (.inl ⟨by kernel_rfl, fun W' hS => by go_simp⟩) qS ?_
  refine wpAnyD_take (i := 8) (v := .agg #[.bool false, .slice va vm vc]) rfl (by kernel_rfl) (by kernel_rfl) (by kernel_rfl) (by kernel_rfl) (by kernel_rfl) (fun _ _ _ h => h) (.inl ⟨by kernel_rfl, fun W' hS => by have d0 := (q0.below hS q0.lt).at (i := 2) rfl; have d1 := (q0.below hS q0.lt).at (i := 3) rfl; go_simp⟩) qS ?_
  refine wpAnyD_one (i := 4) (by kernel_rfl) rfl (by kernel_rfl) ?_
  go_simp
  refine (ftimes_any w2.heap.size _ _ m q _ (hu3.below qS (Nat.le_refl _) (Nat.le_refl _)) (hy3.below qS (Nat.le_refl _) (Nat.le_refl _)) qS.size hmn3 (by have := h1.1; have := h2.1; omega) (by have := h1.2.1; have := h2.2.1; omega)).mono ?_
  rintro e w3 ⟨p3, rfl, hp3, hb3, hn3⟩
  have qS3 : Below w2.heap.size w2 w3 := qS.trans (hb3.mono qS.size)
  obtain ⟨a3, m3, c3, rfl⟩ := hp3.form
  go_simp
  refine wpAnyD_one (i := 9) (by kernel_rfl) rfl (by kernel_rfl) ?_
  go_simp
  refine (ftimes_any w2.heap.size _ _ p n _ (hx3.below qS3 (Nat.le_refl _) (Nat.le_refl _)) (hv3.below qS3 (Nat.le_refl _) (Nat.le_refl _)) qS3.size hmn4 (by have := h1.1; have := h2.1; omega) (by have := h1.2.1; have := h2.2.1; omega)).mono ?_
  rintro e w4 ⟨p4, rfl, hp4, hb4, hn4⟩
  have qS4 : Below w2.heap.size w2 w4 := qS3.trans (hb4.mono qS3.size)
  obtain ⟨a4, m4, c4, rfl⟩ := hp4.form
  go_simp
  refine wpAnyD_one (i := 10) (by kernel_rfl) rfl (by kernel_rfl) ?_
  go_simp
  have hc := wcmp_any w4.heap.size _ _ (m * q) (p * n) _ (hp3.below hb4 (Nat.le_refl _) hb4.size) hp4 (Nat.le_refl _) hmn3 hmn4
  rw [HCV.out] at hc
  refine hc.mono ?_
  rintro e w5 ⟨rfl, hb5⟩
  have qS5 : Below w2.heap.size w2 w5 := qS4.trans (hb5.mono qS4.size)
  go_simp
  refine wpAnyD_one (i := 11) (by kernel_rfl) rfl (by kernel_rfl) ?_
  go_simp
  refine wpAnyD_done (by kernel_rfl) ?_ _
  go_wp2_with fail
  go_ret
  exact ⟨rfl, b2.trans (qS5.mono (by omega))⟩
end Go.Proofs.YthooiobhlbnaoaaGreat
