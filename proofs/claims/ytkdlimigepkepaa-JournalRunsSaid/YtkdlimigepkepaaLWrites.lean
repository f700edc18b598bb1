/- JournalWrites: the walk. No conditions beyond the readings of the arguments. -/
import Derived.Test.YtkdlimigepkepaaJ11
import Derived.Deep.CutRange
namespace Go.Proofs.Ytkdlimigepkepaa
open Go.RowKit
set_option linter.unusedVariables false

section
variable {P : Program} {ops : Array Oper} {Q : Exit → Act → World → Prop} {md : Region.Mode} {S : World → Prop} {D : List Nat}
theorem wpAnyD_two {i j : Nat} {o o' : Oper} {fuel : Nat} {listed : Array Bool} {a : Act} {w : World} (hr : Region.ready md ops listed = [i, j]) (ho : ops[i]? = some o) (ho' : ops[j]? = some o')
    (hw : Region.wanted o (yielded ops a.tmps) = true) (hw' : Region.wanted o' (yielded ops a.tmps) = true)
    (h : o.wp P a w (fun a' w' => (i ∉ D → S w') ∧ wpAnyD P md ops Q S D fuel (listed.setIfInBounds i true) a' w') Q)
    (h' : o'.wp P a w (fun a' w' => (j ∉ D → S w') ∧ wpAnyD P md ops Q S D fuel (listed.setIfInBounds j true) a' w') Q) : wpAnyD P md ops Q S D (fuel + 1) listed a w :=
  ⟨fun h0 => by rw [hr] at h0; simp at h0, fun k hk => by
    rw [hr] at hk
    simp only [List.mem_cons, List.not_mem_nil, or_false] at hk
    rcases hk with rfl | rfl
    · exact wpOp_of ho hw h
    · exact wpOp_of ho' hw' h'⟩
end

theorem writeS_pow {s : St} (d : List UInt8) (h : s.power ≤ 2 ^ 63 - 1) : (writeS s d).1.power ≤ 2 ^ 63 - 1 := by
  unfold writeS
  split
  · simp [zSt]
  · split
    · simp [zSt]
    · split
      · exact h
      · split
        · simp
        · simp only; omega
theorem ownB_empty {base : Nat} (W : World) (h : base ≤ W.heap.size) : OwnB base (W.alloc (.cells #[] 5)) (.slice (some ⟨W.heap.size, 0, none⟩) 0 0) [] :=
  ⟨rfl, .inr ⟨W.heap.size, 0, #[], rfl, h, World.alloc_heap_new W _, Nat.le_refl _, Nat.zero_le _, rfl, rfl⟩⟩
theorem OwnB.base_le {base : Nat} {W : World} {v : Value} {l : List UInt8} (h : OwnB base W v l) {r : Nat} (hr : v.ownBlock = some r) : base ≤ r := (ownsRow_cells h hr).1
theorem OwnB.lt {base : Nat} {W : World} {v : Value} {l : List UInt8} (h : OwnB base W v l) {r : Nat} (hr : v.ownBlock = some r) : r < W.heap.size := by
  obtain ⟨o, ho, _⟩ := (ownsRow_cells h hr).2
  exact (Array.getElem?_eq_some_iff.1 ho).1
theorem OwnB.notBlock {base : Nat} {W : World} {v : Value} {l : List UInt8} (h : OwnB base W v l) {b : Nat} (hb : b < base) : some b ≠ v.ownBlock := fun e => by
  have := h.base_le e.symm; omega
theorem OwnB.notNew {base : Nat} {W : World} {v : Value} {l : List UInt8} (h : OwnB base W v l) : v.ownBlock ≠ some W.heap.size := fun e => by
  have := h.lt e; omega
theorem OwnB.keptB2 {base : Nat} {W W' : World} {v : Value} {l : List UInt8} (h : OwnB base W v l) {r : Nat} (hne : v.ownBlock ≠ some r) {x y : Value}
    (hW : (W.setCell ⟨r, 0, none⟩ x).setCell ⟨r, 1, none⟩ y = W') : Byts W'.heap.size W' v l := by
  subst hW
  exact ((h.kept (grownBy_setCell W r 0 x) (.inr hne)).kept (grownBy_setCell _ r 1 y) (.inr hne)).byts

set_option maxRecDepth 100000 in
set_option maxHeartbeats 16000000 in
theorem writes_walk (v va vb : Value) (s : St) (a b : List UInt8) (w : World) (hv : Byts w.heap.size w v s.data) (ha : Byts w.heap.size w va a) (hb : Byts w.heap.size w vb b) (hp : s.power ≤ 2 ^ 63 - 1) (hp' : -(2 ^ 63) ≤ s.power) :
    Calls Try.prog 8 #[.agg #[v, .int .i64 s.power], va, vb] w fun e w' => e = .returned (.bool true) ∧ Below w.heap.size w w' := by
  obtain ⟨d, p⟩ := s
  simp only at hv hp hp' ⊢
  obtain ⟨xa, cap, rfl, hl1, hl2, hz, _⟩ := id hv
  obtain ⟨xb, bap, rfl, hm1, hm2, hzb, _⟩ := id ha
  obtain ⟨xc, cpp, rfl, hn1, hn2, hzc, _⟩ := id hb
  unfold maxLen at hl2 hm2 hn2
  have HV := Lib.hid hv; have HA := Lib.hid ha; have HB := Lib.hid hb
  clear hv ha hb hz hzb hzc
  go_enter Try.func8, Try.ntmps8
  go_wp2_with fail
  refine (awake_any _).mono ?_
  rintro e w1 ⟨rfl, hb1⟩
  have q1 : Blk w1 w.heap.size #[.slice xa d.length cap, .int .i64 p] 27 := (Blk.new w _ _).below hb1 (by simp)
  have hz1 : w.heap.size < w1.heap.size := q1.lt
  have hq1 : Below w.heap.size w w1 := ((Below.refl _ w).alloc (Nat.le_refl _) _).trans (hb1.mono (by simp))
  clear hb1
  obtain ⟨c0, c1, f0, f1⟩ := q1.two
  by_cases h1 : 5000 < d.length
  · have t1 : decide ((5000 : Int) < (d.length : Int)) = true := by simp; omega
    clear h1
    go_wp2_with fail
    go_ret
    exact ⟨rfl, hq1⟩
  have t1 : decide ((5000 : Int) < (d.length : Int)) = false := by simp; omega
  by_cases h2 : 5000 < a.length
  · have t2 : decide ((5000 : Int) < (a.length : Int)) = true := by simp; omega
    clear h1 h2
    go_wp2_with fail
    go_ret
    exact ⟨rfl, hq1⟩
  have t2 : decide ((5000 : Int) < (a.length : Int)) = false := by simp; omega
  by_cases h3 : 5000 < b.length
  · have t3 : decide ((5000 : Int) < (b.length : Int)) = true := by simp; omega
    clear h1 h2 h3
    go_wp2_with fail
    go_ret
    exact ⟨rfl, hq1⟩
  have t3 : decide ((5000 : Int) < (b.length : Int)) = false := by simp; omega
  go_wp2_with fail
  refine (valid_any xa d.length cap p _ (by unfold maxLen; omega)).mono ?_
  rintro e w2 ⟨rfl, hb2⟩
  have q2 := q1.below hb2 hz1
  have hz2 : w.heap.size < w2.heap.size := q2.lt
  have hq2 : Below w.heap.size w w2 := hq1.trans (hb2.mono (by omega))
  clear hb2 c0 c1 f0 f1 q1 hq1
  obtain ⟨c0, c1, f0, f1⟩ := q2.two
  cases hvb : validB d.length p with
  | false =>
    clear h1 h2 h3
    go_wp2_with fail
    go_ret
    exact ⟨rfl, hq2⟩
  | true =>
    have hp1 : -1 ≤ p := by simp [validB] at hvb; omega
    have F := Lib.hid (write_facts (s := ⟨d, p⟩) (a := a) (b := b) (by simp only; omega) hp1 (by omega) (by omega))
    clear hvb
    go_upto_region 5 with fail
    obtain ⟨ws, hws⟩ : ∃ ws, writeS ⟨d, p⟩ (a ++ b) = ws := ⟨_, rfl⟩
    go_cut [7, 8] from 37 (fun s7 s8 wx => ∃ r x, s7 = .pointer (some ⟨r, 0, none⟩) ∧ s8 = .int .i64 ws.2 ∧ r ≠ w.heap.size ∧ w.heap.size ≤ r ∧ Blk wx r #[x, .int .i64 ws.1.power] 27 ∧ Byts wx.heap.size wx x ws.1.data ∧ Below w.heap.size w wx ∧ Blk wx w.heap.size #[.slice xa d.length cap, .int .i64 p] 27)
    case first =>
      refine region_plain (fun W => Blk W w.heap.size #[.slice xa d.length cap, .int .i64 p] 27) [] (by kernel_rfl) ?_
      have qd : Blk w2.drew w.heap.size #[.slice xa d.length cap, .int .i64 p] 27 := q2
      refine wpAnyD_take (i := 0) (v := .agg #[.slice xa d.length cap, .int .i64 p]) rfl (by kernel_rfl) (by kernel_rfl) (by kernel_rfl) (by kernel_rfl) (by kernel_rfl) (fun _ _ _ h => h) (.inl ⟨by kernel_rfl, fun W' hS => ?_⟩) qd ?_
      · obtain ⟨c0, c1, f0, f1⟩ := hS.two
        go_simp
      refine wpAnyD_take (i := 2) (v := .slice xb a.length bap) rfl (by kernel_rfl) (by kernel_rfl) (by kernel_rfl) (by kernel_rfl) (by kernel_rfl) (fun _ _ _ h => h) (.inl ⟨by kernel_rfl, fun W' hS => ?_⟩) qd ?_
      · go_simp
      refine wpAnyD_take (i := 4) (v := .slice xc b.length cpp) rfl (by kernel_rfl) (by kernel_rfl) (by kernel_rfl) (by kernel_rfl) (by kernel_rfl) (fun _ _ _ h => h) (.inl ⟨by kernel_rfl, fun W' hS => ?_⟩) qd ?_
      · go_simp
      obtain ⟨W0, hW0⟩ : ∃ X, w2.drew = X := ⟨_, rfl⟩
      have hb0 : Below w.heap.size w w2.drew := hq2.drew
      have hz0 : w.heap.size < w2.drew.heap.size := hz2
      rw [hW0] at qd hb0 hz0 ⊢
      have q0 := qd
      obtain ⟨M, hM⟩ : ∃ M, W0.heap.size = M := ⟨_, rfl⟩
      rw [hM] at hz0
      have hs0 : M ≤ W0.heap.size := by omega
      clear hM hW0
      obtain ⟨⟨d', p'⟩, c'⟩ := ws
      have hab : (a ++ b).length ≤ 2 ^ 20 := by simp; omega
      refine wpAnyD_two (i := 1) (j := 10) (by kernel_rfl) rfl rfl (by kernel_rfl) (by kernel_rfl) ?_ ?_
      · go_simp
        refine ⟨q0.alloc _, ?_⟩
        have own1 := ownB_empty (base := M) W0 hs0
        have q1 := q0.alloc (.cells #[] 5)
        have hb1 := hb0.alloc (by omega) (.cells #[] 5)
        have hs1 : M ≤ (W0.alloc (.cells #[] 5)).heap.size := by simp; omega
        obtain ⟨v1, hv1⟩ : ∃ X, Value.slice (some ⟨W0.heap.size, 0, none⟩) 0 0 = X := ⟨_, rfl⟩
        obtain ⟨W1, hW1⟩ : ∃ X, W0.alloc (.cells #[] 5) = X := ⟨_, rfl⟩
        rw [hv1] at own1 ⊢
        rw [hW1] at own1 q1 hb1 hs1 ⊢
        clear hv1 hW1
        refine wpAnyD_two (i := 3) (j := 10) (by kernel_rfl) rfl rfl (by kernel_rfl) (by kernel_rfl) ?_ ?_
        · refine wp_append_B (.tmp 39) (.tmp 40) rfl rfl rfl own1 (HA.out.below hb1 (Nat.le_refl _)) (by simp; omega) hs1 ?_
          intro v2 W2 own2 hg2 ho2
          have hnb := own1.notBlock (show w.heap.size < M by omega)
          have q2 := q1.kept hg2 hnb
          refine ⟨fun _ => q2, ?_⟩
          have hb2 := hb1.trans (below_of_grown hg2 (fun j e => by have := own1.base_le e; omega) (by omega))
          have hs2 : M ≤ W2.heap.size := by have := hg2.size; omega
          refine wpAnyD_two (i := 5) (j := 10) (by kernel_rfl) rfl rfl (by kernel_rfl) (by kernel_rfl) ?_ ?_
          · refine wp_append_B (.tmp 41) (.tmp 42) rfl rfl rfl own2 (HB.out.below hb2 (Nat.le_refl _)) (by simp; omega) hs2 ?_
            intro v3 W3 own3 hg3 ho3
            have hnb := own2.notBlock (show w.heap.size < M by omega)
            have q3 := q2.kept hg3 hnb
            refine ⟨fun _ => q3, ?_⟩
            have hb3 := hb2.trans (below_of_grown hg3 (fun j e => by have := own2.base_le e; omega) (by omega))
            have hs3 : M ≤ W3.heap.size := by have := hg3.size; omega
            refine wpAnyD_two (i := 6) (j := 10) (by kernel_rfl) rfl rfl (by kernel_rfl) (by kernel_rfl) ?_ ?_
            · go_simp
              refine (write_any W3.heap.size _ _ ⟨d, p⟩ (a ++ b) W3 (HV.out.below hb3 (by omega)) own3.byts (Nat.le_refl _) hp).mono ?_
              rintro e W4 ⟨v4, rfl, own4, hbb⟩
              rw [hws] at own4 ⊢
              simp only at own4 ⊢
              obtain ⟨ra, rn, rc, rfl⟩ := ownBlock_of_OwnB own4
              have q4 := q3.below hbb (by omega)
              refine ⟨q4, ?_⟩
              have hb4 := hb3.trans (hbb.mono (by omega))
              have hs4 : M ≤ W4.heap.size := by have := hbb.size; omega
              have own4 := own4.mono hs3
              refine wpAnyD_take (i := 7) (v := .tuple #[.agg #[.slice ra rn rc, .int .i64 p'], .int .i64 c']) rfl (by kernel_rfl) (by kernel_rfl) (by kernel_rfl) (by kernel_rfl) (by kernel_rfl) (fun _ _ _ h => h) (.inl ⟨by kernel_rfl, fun W' hS => by go_simp⟩) q4 ?_
              refine wpAnyD_take (i := 8) (v := .agg #[.slice ra rn rc, .int .i64 p']) rfl (by kernel_rfl) (by kernel_rfl) (by kernel_rfl) (by kernel_rfl) (by kernel_rfl) (fun _ _ _ h => h) (.inl ⟨by kernel_rfl, fun W' hS => by go_simp⟩) q4 ?_
              refine wpAnyD_take (i := 9) (v := .int .i64 c') rfl (by kernel_rfl) (by kernel_rfl) (by kernel_rfl) (by kernel_rfl) (by kernel_rfl) (fun _ _ _ h => h) (.inl ⟨by kernel_rfl, fun W' hS => by go_simp⟩) q4 ?_
              refine wpAnyD_one (i := 10) (by kernel_rfl) rfl (by kernel_rfl) ?_
              go_simp
              refine ⟨q4.alloc _, ?_⟩
              have q5 := q4.alloc (.cells #[.slice none 0 0, .int .i64 0] 27)
              have own5 := own4.alloc (.cells #[.slice none 0 0, .int .i64 0] 27)
              have hne := own4.notNew
              have ab5 := Blk.new W4 #[.slice none 0 0, .int .i64 0] 27
              have hb5 := hb4.alloc (by omega) (.cells #[.slice none 0 0, .int .i64 0] 27)
              have hs5 : M ≤ (W4.alloc (.cells #[.slice none 0 0, .int .i64 0] 27)).heap.size := by simp; omega
              have hrM : M ≤ W4.heap.size := hs4
              obtain ⟨W5, hW5⟩ : ∃ X, W4.alloc (.cells #[.slice none 0 0, .int .i64 0] 27) = X := ⟨_, rfl⟩
              rw [hW5] at own5 q5 hb5 hs5 ab5 ⊢
              obtain ⟨r, hr⟩ : ∃ X, W4.heap.size = X := ⟨_, rfl⟩
              rw [hr] at ab5 hrM hne ⊢
              clear hr hW5
              obtain ⟨e0, e1, g0, g1⟩ := ab5.two
              refine wpAnyD_one (i := 11) (by kernel_rfl) rfl (by kernel_rfl) ?_
              go_simp
              obtain ⟨W6, hW6, ab6, hp6, hv6, hz6⟩ := put2 ab5 (.slice ra rn rc) (.int .i64 p')
              rw [hW6]
              have q6 := q5.below hp6 (by omega)
              refine ⟨q6, ?_⟩
              refine wpAnyD_one (i := 12) (by kernel_rfl) rfl (by kernel_rfl) ?_
              go_simp
              refine ⟨by kernel_rfl, ?_⟩
              have own6 : Byts W6.heap.size W6 (.slice ra rn rc) d' := (own5.keptB2 hne hW6)
              go_wp2_with fail
              go_meet
              exact ⟨r, .slice ra rn rc, rfl, rfl, by omega, by omega, ab6, own6, hb5.trans (hp6.mono (by omega)), q6⟩
            · go_simp
              refine ⟨q3.alloc _, ?_⟩
              have q4 := q3.alloc (.cells #[.slice none 0 0, .int .i64 0] 27)
              have own4 := own3.alloc (.cells #[.slice none 0 0, .int .i64 0] 27)
              have hne := own3.notNew
              have ab4 := Blk.new W3 #[.slice none 0 0, .int .i64 0] 27
              have hb4 := hb3.alloc (by omega) (.cells #[.slice none 0 0, .int .i64 0] 27)
              have hs4 : M ≤ (W3.alloc (.cells #[.slice none 0 0, .int .i64 0] 27)).heap.size := by simp; omega
              have hrM : M ≤ W3.heap.size := hs3
              obtain ⟨W4, hW4⟩ : ∃ X, W3.alloc (.cells #[.slice none 0 0, .int .i64 0] 27) = X := ⟨_, rfl⟩
              rw [hW4] at own4 q4 hb4 hs4 ab4 ⊢
              obtain ⟨r, hr⟩ : ∃ X, W3.heap.size = X := ⟨_, rfl⟩
              rw [hr] at ab4 hrM hne ⊢
              clear hr hW4
              refine wpAnyD_one (i := 6) (by kernel_rfl) rfl (by kernel_rfl) ?_
              go_simp
              refine (write_any W4.heap.size _ _ ⟨d, p⟩ (a ++ b) W4 (HV.out.below hb4 (by omega)) own4.byts (Nat.le_refl _) hp).mono ?_
              rintro e W5 ⟨v5, rfl, own5, hbb⟩
              rw [hws] at own5 ⊢
              simp only at own5 ⊢
              obtain ⟨ra, rn, rc, rfl⟩ := ownBlock_of_OwnB own5
              have q5 := q4.below hbb (by omega)
              refine ⟨q5, ?_⟩
              have ab5 := ab4.below hbb ab4.lt
              have hne : (Value.slice ra rn rc).ownBlock ≠ some r := fun h => by have := own5.base_le h; have := ab4.lt; omega
              have hb5 := hb4.trans (hbb.mono (by omega))
              have hs5 : M ≤ W5.heap.size := by have := hbb.size; omega
              have own5 := own5.mono hs4
              refine wpAnyD_take (i := 7) (v := .tuple #[.agg #[.slice ra rn rc, .int .i64 p'], .int .i64 c']) rfl (by kernel_rfl) (by kernel_rfl) (by kernel_rfl) (by kernel_rfl) (by kernel_rfl) (fun _ _ _ h => h) (.inl ⟨by kernel_rfl, fun W' hS => by go_simp⟩) q5 ?_
              refine wpAnyD_take (i := 8) (v := .agg #[.slice ra rn rc, .int .i64 p']) rfl (by kernel_rfl) (by kernel_rfl) (by kernel_rfl) (by kernel_rfl) (by kernel_rfl) (fun _ _ _ h => h) (.inl ⟨by kernel_rfl, fun W' hS => by go_simp⟩) q5 ?_
              refine wpAnyD_take (i := 9) (v := .int .i64 c') rfl (by kernel_rfl) (by kernel_rfl) (by kernel_rfl) (by kernel_rfl) (by kernel_rfl) (fun _ _ _ h => h) (.inl ⟨by kernel_rfl, fun W' hS => by go_simp⟩) q5 ?_
              obtain ⟨e0, e1, g0, g1⟩ := ab5.two
              refine wpAnyD_one (i := 11) (by kernel_rfl) rfl (by kernel_rfl) ?_
              go_simp
              obtain ⟨W6, hW6, ab6, hp6, hv6, hz6⟩ := put2 ab5 (.slice ra rn rc) (.int .i64 p')
              rw [hW6]
              have q6 := q5.below hp6 (by omega)
              refine ⟨q6, ?_⟩
              refine wpAnyD_one (i := 12) (by kernel_rfl) rfl (by kernel_rfl) ?_
              go_simp
              refine ⟨by kernel_rfl, ?_⟩
              have own6 : Byts W6.heap.size W6 (.slice ra rn rc) d' := (own5.keptB2 hne hW6)
              go_wp2_with fail
              go_meet
              exact ⟨r, .slice ra rn rc, rfl, rfl, by omega, by omega, ab6, own6, hb5.trans (hp6.mono (by omega)), q6⟩
          · go_simp
            refine ⟨q2.alloc _, ?_⟩
            have q3 := q2.alloc (.cells #[.slice none 0 0, .int .i64 0] 27)
            have own3 := own2.alloc (.cells #[.slice none 0 0, .int .i64 0] 27)
            have hne := own2.notNew
            have ab3 := Blk.new W2 #[.slice none 0 0, .int .i64 0] 27
            have hb3 := hb2.alloc (by omega) (.cells #[.slice none 0 0, .int .i64 0] 27)
            have hs3 : M ≤ (W2.alloc (.cells #[.slice none 0 0, .int .i64 0] 27)).heap.size := by simp; omega
            have hrM : M ≤ W2.heap.size := hs2
            obtain ⟨W3, hW3⟩ : ∃ X, W2.alloc (.cells #[.slice none 0 0, .int .i64 0] 27) = X := ⟨_, rfl⟩
            rw [hW3] at own3 q3 hb3 hs3 ab3 ⊢
            obtain ⟨r, hr⟩ : ∃ X, W2.heap.size = X := ⟨_, rfl⟩
            rw [hr] at ab3 hrM hne ⊢
            clear hr hW3
            refine wpAnyD_one (i := 5) (by kernel_rfl) rfl (by kernel_rfl) ?_
            refine wp_append_B (.tmp 41) (.tmp 42) rfl rfl rfl own3 (HB.out.below hb3 (Nat.le_refl _)) (by simp; omega) hs3 ?_
            intro v4 W4 own4 hg4 ho4
            have hnb := own3.notBlock (show w.heap.size < M by omega)
            have q4 := q3.kept hg4 hnb
            refine ⟨fun _ => q4, ?_⟩
            have ab4 := ab3.kept hg4 (Ne.symm hne)
            have hne : v4.ownBlock ≠ some r := by have := ab3.lt; rcases ho4 with h | h <;> rw [h] <;> first | exact hne | (simp; omega)
            have hb4 := hb3.trans (below_of_grown hg4 (fun j e => by have := own3.base_le e; omega) (by omega))
            have hs4 : M ≤ W4.heap.size := by have := hg4.size; omega
            refine wpAnyD_one (i := 6) (by kernel_rfl) rfl (by kernel_rfl) ?_
            go_simp
            refine (write_any W4.heap.size _ _ ⟨d, p⟩ (a ++ b) W4 (HV.out.below hb4 (by omega)) own4.byts (Nat.le_refl _) hp).mono ?_
            rintro e W5 ⟨v5, rfl, own5, hbb⟩
            rw [hws] at own5 ⊢
            simp only at own5 ⊢
            obtain ⟨ra, rn, rc, rfl⟩ := ownBlock_of_OwnB own5
            have q5 := q4.below hbb (by omega)
            refine ⟨q5, ?_⟩
            have ab5 := ab4.below hbb ab4.lt
            have hne : (Value.slice ra rn rc).ownBlock ≠ some r := fun h => by have := own5.base_le h; have := ab4.lt; omega
            have hb5 := hb4.trans (hbb.mono (by omega))
            have hs5 : M ≤ W5.heap.size := by have := hbb.size; omega
            have own5 := own5.mono hs4
            refine wpAnyD_take (i := 7) (v := .tuple #[.agg #[.slice ra rn rc, .int .i64 p'], .int .i64 c']) rfl (by kernel_rfl) (by kernel_rfl) (by kernel_rfl) (by kernel_rfl) (by kernel_rfl) (fun _ _ _ h => h) (.inl ⟨by kernel_rfl, fun W' hS => by go_simp⟩) q5 ?_
            refine wpAnyD_take (i := 8) (v := .agg #[.slice ra rn rc, .int .i64 p']) rfl (by kernel_rfl) (by kernel_rfl) (by kernel_rfl) (by kernel_rfl) (by kernel_rfl) (fun _ _ _ h => h) (.inl ⟨by kernel_rfl, fun W' hS => by go_simp⟩) q5 ?_
            refine wpAnyD_take (i := 9) (v := .int .i64 c') rfl (by kernel_rfl) (by kernel_rfl) (by kernel_rfl) (by kernel_rfl) (by kernel_rfl) (fun _ _ _ h => h) (.inl ⟨by kernel_rfl, fun W' hS => by go_simp⟩) q5 ?_
            obtain ⟨e0, e1, g0, g1⟩ := ab5.two
            refine wpAnyD_one (i := 11) (by kernel_rfl) rfl (by kernel_rfl) ?_
            go_simp
            obtain ⟨W6, hW6, ab6, hp6, hv6, hz6⟩ := put2 ab5 (.slice ra rn rc) (.int .i64 p')
            rw [hW6]
            have q6 := q5.below hp6 (by omega)
            refine ⟨q6, ?_⟩
            refine wpAnyD_one (i := 12) (by kernel_rfl) rfl (by kernel_rfl) ?_
            go_simp
            refine ⟨by kernel_rfl, ?_⟩
            have own6 : Byts W6.heap.size W6 (.slice ra rn rc) d' := (own5.keptB2 hne hW6)
            go_wp2_with fail
            go_meet
            exact ⟨r, .slice ra rn rc, rfl, rfl, by omega, by omega, ab6, own6, hb5.trans (hp6.mono (by omega)), q6⟩
        · go_simp
          refine ⟨q1.alloc _, ?_⟩
          have q2 := q1.alloc (.cells #[.slice none 0 0, .int .i64 0] 27)
          have own2 := own1.alloc (.cells #[.slice none 0 0, .int .i64 0] 27)
          have hne := own1.notNew
          have ab2 := Blk.new W1 #[.slice none 0 0, .int .i64 0] 27
          have hb2 := hb1.alloc (by omega) (.cells #[.slice none 0 0, .int .i64 0] 27)
          have hs2 : M ≤ (W1.alloc (.cells #[.slice none 0 0, .int .i64 0] 27)).heap.size := by simp; omega
          have hrM : M ≤ W1.heap.size := hs1
          obtain ⟨W2, hW2⟩ : ∃ X, W1.alloc (.cells #[.slice none 0 0, .int .i64 0] 27) = X := ⟨_, rfl⟩
          rw [hW2] at own2 q2 hb2 hs2 ab2 ⊢
          obtain ⟨r, hr⟩ : ∃ X, W1.heap.size = X := ⟨_, rfl⟩
          rw [hr] at ab2 hrM hne ⊢
          clear hr hW2
          refine wpAnyD_one (i := 3) (by kernel_rfl) rfl (by kernel_rfl) ?_
          refine wp_append_B (.tmp 39) (.tmp 40) rfl rfl rfl own2 (HA.out.below hb2 (Nat.le_refl _)) (by simp; omega) hs2 ?_
          intro v3 W3 own3 hg3 ho3
          have hnb := own2.notBlock (show w.heap.size < M by omega)
          have q3 := q2.kept hg3 hnb
          refine ⟨fun _ => q3, ?_⟩
          have ab3 := ab2.kept hg3 (Ne.symm hne)
          have hne : v3.ownBlock ≠ some r := by have := ab2.lt; rcases ho3 with h | h <;> rw [h] <;> first | exact hne | (simp; omega)
          have hb3 := hb2.trans (below_of_grown hg3 (fun j e => by have := own2.base_le e; omega) (by omega))
          have hs3 : M ≤ W3.heap.size := by have := hg3.size; omega
          refine wpAnyD_one (i := 5) (by kernel_rfl) rfl (by kernel_rfl) ?_
          refine wp_append_B (.tmp 41) (.tmp 42) rfl rfl rfl own3 (HB.out.below hb3 (Nat.le_refl _)) (by simp; omega) hs3 ?_
          intro v4 W4 own4 hg4 ho4
          have hnb := own3.notBlock (show w.heap.size < M by omega)
          have q4 := q3.kept hg4 hnb
          refine ⟨fun _ => q4, ?_⟩
          have ab4 := ab3.kept hg4 (Ne.symm hne)
          have hne : v4.ownBlock ≠ some r := by have := ab3.lt; rcases ho4 with h | h <;> rw [h] <;> first | exact hne | (simp; omega)
          have hb4 := hb3.trans (below_of_grown hg4 (fun j e => by have := own3.base_le e; omega) (by omega))
          have hs4 : M ≤ W4.heap.size := by have := hg4.size; omega
          refine wpAnyD_one (i := 6) (by kernel_rfl) rfl (by kernel_rfl) ?_
          go_simp
          refine (write_any W4.heap.size _ _ ⟨d, p⟩ (a ++ b) W4 (HV.out.below hb4 (by omega)) own4.byts (Nat.le_refl _) hp).mono ?_
          rintro e W5 ⟨v5, rfl, own5, hbb⟩
          rw [hws] at own5 ⊢
          simp only at own5 ⊢
          obtain ⟨ra, rn, rc, rfl⟩ := ownBlock_of_OwnB own5
          have q5 := q4.below hbb (by omega)
          refine ⟨q5, ?_⟩
          have ab5 := ab4.below hbb ab4.lt
          have hne : (Value.slice ra rn rc).ownBlock ≠ some r := fun h => by have := own5.base_le h; have := ab4.lt; omega
          have hb5 := hb4.trans (hbb.mono (by omega))
          have hs5 : M ≤ W5.heap.size := by have := hbb.size; omega
          have own5 := own5.mono hs4
          refine wpAnyD_take (i := 7) (v := .tuple #[.agg #[.slice ra rn rc, .int .i64 p'], .int .i64 c']) rfl (by kernel_rfl) (by kernel_rfl) (by kernel_rfl) (by kernel_rfl) (by kernel_rfl) (fun _ _ _ h => h) (.inl ⟨by kernel_rfl, fun W' hS => by go_simp⟩) q5 ?_
          refine wpAnyD_take (i := 8) (v := .agg #[.slice ra rn rc, .int .i64 p']) rfl (by kernel_rfl) (by kernel_rfl) (by kernel_rfl) (by kernel_rfl) (by kernel_rfl) (fun _ _ _ h => h) (.inl ⟨by kernel_rfl, fun W' hS => by go_simp⟩) q5 ?_
          refine wpAnyD_take (i := 9) (v := .int .i64 c') rfl (by kernel_rfl) (by kernel_rfl) (by kernel_rfl) (by kernel_rfl) (by kernel_rfl) (fun _ _ _ h => h) (.inl ⟨by kernel_rfl, fun W' hS => by go_simp⟩) q5 ?_
          obtain ⟨e0, e1, g0, g1⟩ := ab5.two
          refine wpAnyD_one (i := 11) (by kernel_rfl) rfl (by kernel_rfl) ?_
          go_simp
          obtain ⟨W6, hW6, ab6, hp6, hv6, hz6⟩ := put2 ab5 (.slice ra rn rc) (.int .i64 p')
          rw [hW6]
          have q6 := q5.below hp6 (by omega)
          refine ⟨q6, ?_⟩
          refine wpAnyD_one (i := 12) (by kernel_rfl) rfl (by kernel_rfl) ?_
          go_simp
          refine ⟨by kernel_rfl, ?_⟩
          have own6 : Byts W6.heap.size W6 (.slice ra rn rc) d' := (own5.keptB2 hne hW6)
          go_wp2_with fail
          go_meet
          exact ⟨r, .slice ra rn rc, rfl, rfl, by omega, by omega, ab6, own6, hb5.trans (hp6.mono (by omega)), q6⟩
      · go_simp
        refine ⟨q0.alloc _, ?_⟩
        have q1 := q0.alloc (.cells #[.slice none 0 0, .int .i64 0] 27)
        have ab1 := Blk.new W0 #[.slice none 0 0, .int .i64 0] 27
        have hb1 := hb0.alloc (by omega) (.cells #[.slice none 0 0, .int .i64 0] 27)
        have hs1 : M ≤ (W0.alloc (.cells #[.slice none 0 0, .int .i64 0] 27)).heap.size := by simp; omega
        have hrM : M ≤ W0.heap.size := hs0
        obtain ⟨W1, hW1⟩ : ∃ X, W0.alloc (.cells #[.slice none 0 0, .int .i64 0] 27) = X := ⟨_, rfl⟩
        rw [hW1] at q1 hb1 hs1 ab1 ⊢
        obtain ⟨r, hr⟩ : ∃ X, W0.heap.size = X := ⟨_, rfl⟩
        rw [hr] at ab1 hrM ⊢
        clear hr hW1
        refine wpAnyD_one (i := 1) (by kernel_rfl) rfl (by kernel_rfl) ?_
        go_simp
        refine ⟨q1.alloc _, ?_⟩
        have own2 := ownB_empty (base := M) W1 hs1
        have q2 := q1.alloc (.cells #[] 5)
        have ab2 := ab1.alloc (.cells #[] 5)
        have hne : (Value.slice (some ⟨W1.heap.size, 0, none⟩) 0 0).ownBlock ≠ some r := by have := ab1.lt; simp [Value.ownBlock]; omega
        have hb2 := hb1.alloc (by omega) (.cells #[] 5)
        have hs2 : M ≤ (W1.alloc (.cells #[] 5)).heap.size := by simp; omega
        obtain ⟨v2, hv2⟩ : ∃ X, Value.slice (some ⟨W1.heap.size, 0, none⟩) 0 0 = X := ⟨_, rfl⟩
        obtain ⟨W2, hW2⟩ : ∃ X, W1.alloc (.cells #[] 5) = X := ⟨_, rfl⟩
        rw [hv2] at own2 hne ⊢
        rw [hW2] at own2 q2 hb2 hs2 ab2 ⊢
        clear hv2 hW2
        refine wpAnyD_one (i := 3) (by kernel_rfl) rfl (by kernel_rfl) ?_
        refine wp_append_B (.tmp 39) (.tmp 40) rfl rfl rfl own2 (HA.out.below hb2 (Nat.le_refl _)) (by simp; omega) hs2 ?_
        intro v3 W3 own3 hg3 ho3
        have hnb := own2.notBlock (show w.heap.size < M by omega)
        have q3 := q2.kept hg3 hnb
        refine ⟨fun _ => q3, ?_⟩
        have ab3 := ab2.kept hg3 (Ne.symm hne)
        have hne : v3.ownBlock ≠ some r := by have := ab2.lt; rcases ho3 with h | h <;> rw [h] <;> first | exact hne | (simp; omega)
        have hb3 := hb2.trans (below_of_grown hg3 (fun j e => by have := own2.base_le e; omega) (by omega))
        have hs3 : M ≤ W3.heap.size := by have := hg3.size; omega
        refine wpAnyD_one (i := 5) (by kernel_rfl) rfl (by kernel_rfl) ?_
        refine wp_append_B (.tmp 41) (.tmp 42) rfl rfl rfl own3 (HB.out.below hb3 (Nat.le_refl _)) (by simp; omega) hs3 ?_
        intro v4 W4 own4 hg4 ho4
        have hnb := own3.notBlock (show w.heap.size < M by omega)
        have q4 := q3.kept hg4 hnb
        refine ⟨fun _ => q4, ?_⟩
        have ab4 := ab3.kept hg4 (Ne.symm hne)
        have hne : v4.ownBlock ≠ some r := by have := ab3.lt; rcases ho4 with h | h <;> rw [h] <;> first | exact hne | (simp; omega)
        have hb4 := hb3.trans (below_of_grown hg4 (fun j e => by have := own3.base_le e; omega) (by omega))
        have hs4 : M ≤ W4.heap.size := by have := hg4.size; omega
        refine wpAnyD_one (i := 6) (by kernel_rfl) rfl (by kernel_rfl) ?_
        go_simp
        refine (write_any W4.heap.size _ _ ⟨d, p⟩ (a ++ b) W4 (HV.out.below hb4 (by omega)) own4.byts (Nat.le_refl _) hp).mono ?_
        rintro e W5 ⟨v5, rfl, own5, hbb⟩
        rw [hws] at own5 ⊢
        simp only at own5 ⊢
        obtain ⟨ra, rn, rc, rfl⟩ := ownBlock_of_OwnB own5
        have q5 := q4.below hbb (by omega)
        refine ⟨q5, ?_⟩
        have ab5 := ab4.below hbb ab4.lt
        have hne : (Value.slice ra rn rc).ownBlock ≠ some r := fun h => by have := own5.base_le h; have := ab4.lt; omega
        have hb5 := hb4.trans (hbb.mono (by omega))
        have hs5 : M ≤ W5.heap.size := by have := hbb.size; omega
        have own5 := own5.mono hs4
        refine wpAnyD_take (i := 7) (v := .tuple #[.agg #[.slice ra rn rc, .int .i64 p'], .int .i64 c']) rfl (by kernel_rfl) (by kernel_rfl) (by kernel_rfl) (by kernel_rfl) (by kernel_rfl) (fun _ _ _ h => h) (.inl ⟨by kernel_rfl, fun W' hS => by go_simp⟩) q5 ?_
        refine wpAnyD_take (i := 8) (v := .agg #[.slice ra rn rc, .int .i64 p']) rfl (by kernel_rfl) (by kernel_rfl) (by kernel_rfl) (by kernel_rfl) (by kernel_rfl) (fun _ _ _ h => h) (.inl ⟨by kernel_rfl, fun W' hS => by go_simp⟩) q5 ?_
        refine wpAnyD_take (i := 9) (v := .int .i64 c') rfl (by kernel_rfl) (by kernel_rfl) (by kernel_rfl) (by kernel_rfl) (by kernel_rfl) (fun _ _ _ h => h) (.inl ⟨by kernel_rfl, fun W' hS => by go_simp⟩) q5 ?_
        obtain ⟨e0, e1, g0, g1⟩ := ab5.two
        refine wpAnyD_one (i := 11) (by kernel_rfl) rfl (by kernel_rfl) ?_
        go_simp
        obtain ⟨W6, hW6, ab6, hp6, hv6, hz6⟩ := put2 ab5 (.slice ra rn rc) (.int .i64 p')
        rw [hW6]
        have q6 := q5.below hp6 (by omega)
        refine ⟨q6, ?_⟩
        refine wpAnyD_one (i := 12) (by kernel_rfl) rfl (by kernel_rfl) ?_
        go_simp
        refine ⟨by kernel_rfl, ?_⟩
        have own6 : Byts W6.heap.size W6 (.slice ra rn rc) d' := (own5.keptB2 hne hW6)
        go_wp2_with fail
        go_meet
        exact ⟨r, .slice ra rn rc, rfl, rfl, by omega, by omega, ab6, own6, hb5.trans (hp6.mono (by omega)), q6⟩
    case rest =>
      obtain ⟨r, x, rfl, rfl, hr1, hr2, ab, hx, hqc, qc⟩ := hcut
      have xpow : ws.1.power ≤ 2 ^ 63 - 1 := by rw [← hws]; exact writeS_pow _ hp
      have f1 := F.out.same
      have f2 := F.out.code
      have f3 := F.out.codeA
      have f4 := F.out.ok
      have f5 := F.out.lenOk
      have f6 := F.out.lenNo
      have f7 := F.out.pre
      have f8 := F.out.cutNo
      have f9 := F.out.cutOk
      rw [hws] at f1 f2 f4 f5 f6 f7 f8 f9
      clear hws F
      obtain ⟨⟨xd, xp⟩, ec⟩ := ws
      simp only at f1 f2 f3 f4 f5 f6 f7 f8 f9 hx ab xpow ⊢
      have G1 := Lib.hid f1; have G2 := Lib.hid f2; have G3 := Lib.hid f3; have G4 := Lib.hid f4; have G5 := Lib.hid f5
      have G6 := Lib.hid f6; have G7 := Lib.hid f7; have G8 := Lib.hid f8; have G9 := Lib.hid f9
      have H1 := Lib.hid h1; have H2 := Lib.hid h2; have H3 := Lib.hid h3
      clear f1 f2 f3 f4 f5 f6 f7 f8 f9 h1 h2 h3
      obtain ⟨ya, yn, rfl, hyn, hym, _⟩ := id hx
      have hzc : w.heap.size < wc.heap.size := qc.lt
      have hrc := ab.lt
      clear c0 c1 f0 f1 q2 hq2 hz2
      obtain ⟨c0, c1, f0, f1⟩ := qc.two
      go_wp2_with fail
      refine (write_any w.heap.size _ _ ⟨d, p⟩ a wc (HV.out.below hqc (Nat.le_refl _)) (HA.out.below hqc (Nat.le_refl _)) (by omega) hp).mono ?_
      rintro e w3 ⟨v3, rfl, ho3, hb3⟩
      obtain ⟨ys, hys⟩ : ∃ ys, writeS ⟨d, p⟩ a = ys := ⟨_, rfl⟩
      have ypow : ys.1.power ≤ 2 ^ 63 - 1 := by rw [← hys]; exact writeS_pow _ hp
      have g1 := G1.out
      have g3 := G3.out
      rw [hys] at ho3 g1 g3 ⊢
      have HYS := Lib.hid hys
      clear hys G1 G3
      obtain ⟨⟨yd, yp⟩, yc⟩ := ys
      simp only at ho3 g1 g3 ypow ⊢
      have G1 := Lib.hid g1; have G3 := Lib.hid g3
      clear g1 g3
      obtain ⟨ra, rn, rc, rfl⟩ := ownBlock_of_OwnB ho3
      have q3 := qc.below hb3 hzc
      have ab3 := ab.below hb3 hrc
      have hx3 := hx.below hb3 (Nat.le_refl _)
      have hN := hb3.size
      have hq3 := hqc.trans (hb3.mono (by omega))
      have hz3 : w.heap.size < w3.heap.size := q3.lt
      clear c0 c1 f0 f1 qc ab hx hqc hb3
      obtain ⟨c0, c1, f0, f1⟩ := q3.two
      go_upto_if 56 with fail
      have hk : Below w3.heap.size w3 ((w3.alloc (.cells #[.slice ra rn rc, .int .i64 yp] 27)).alloc (.cells #[.slice ra rn rc, .int .i64 yp] 27)) := ((Below.refl _ w3).alloc (Nat.le_refl _) _).alloc (by simp) _
      have q4 := q3.below hk hz3
      have ab4 := ab3.below hk ab3.lt
      have hx4 := hx3.below (hk.mono hN) (Nat.le_refl _)
      have hq4 := hq3.trans (hk.mono (by omega))
      have ho4 := (ho3.alloc (.cells #[.slice ra rn rc, .int .i64 yp] 27)).alloc (.cells #[.slice ra rn rc, .int .i64 yp] 27)
      have n4 := (Blk.new w3 #[.slice ra rn rc, .int .i64 yp] 27).alloc (.cells #[.slice ra rn rc, .int .i64 yp] 27)
      have m4 := Blk.new (w3.alloc (.cells #[.slice ra rn rc, .int .i64 yp] 27)) #[.slice ra rn rc, .int .i64 yp] 27
      have hl1 := ho3.notNew
      have hl2 : (Value.slice ra rn rc).ownBlock ≠ some (w3.heap.size + 1) := fun h => by have := ho3.lt h; omega
      have hrr := ab3.lt
      obtain ⟨w4, hw4⟩ : ∃ X, (w3.alloc (.cells #[.slice ra rn rc, .int .i64 yp] 27)).alloc (.cells #[.slice ra rn rc, .int .i64 yp] 27) = X := ⟨_, rfl⟩
      rw [World.size_alloc] at m4
      have hz4 : w3.heap.size + 2 = w4.heap.size := by rw [← hw4]; simp
      obtain ⟨r9, hr9⟩ : ∃ X, w3.heap.size = X := ⟨_, rfl⟩
      rw [hw4] at q4 ab4 hx4 hq4 ho4 n4 m4 ⊢
      rw [hr9] at hN n4 m4 hl1 hl2 hz3 hrr hz4 ⊢
      clear hw4 hr9 hk c0 c1 f0 f1 q3 ab3 hx3 hq3 ho3
      go_cut [12] from 57 to 62 (fun s12 wx => ∃ z, s12 = .int .i64 ec ∧ Blk wx (r9 + 1) #[z, .int .i64 xp] 27 ∧ Byts wx.heap.size wx z xd ∧ Byts wx.heap.size wx (.slice ya xd.length yn) xd ∧ Blk wx r #[.slice ya xd.length yn, .int .i64 xp] 27 ∧ Blk wx w.heap.size #[.slice xa d.length cap, .int .i64 p] 27 ∧ Below w.heap.size w wx)
      case first =>
        by_cases hyc : yc = 0
        · have t : (yc == (0 : Int)) = true := by simp [hyc]
          have g1 := G1.out
          rw [if_pos hyc] at g1
          have HG := Lib.hid g1
          clear g1 G1
          obtain ⟨e0, e1, g0, g1⟩ := n4.two
          go_wp2_with fail
          refine (write_any w4.heap.size _ _ ⟨yd, yp⟩ b w4 ho4.byts (HB.out.below hq4 (by omega)) (Nat.le_refl _) ypow).mono ?_
          rintro e w5 ⟨v5, rfl, ho5, hb5⟩
          rw [HG.out] at ho5 ⊢
          simp only at ho5 ⊢
          obtain ⟨sa, sn, sc, rfl⟩ := ownBlock_of_OwnB ho5
          have m5 := m4.below hb5 (by omega)
          have q5 := q4.below hb5 (by omega)
          have ab5 := ab4.below hb5 (by omega)
          have hx5 := hx4.below (hb5.mono (by omega)) (Nat.le_refl _)
          clear e0 e1 g0 g1
          obtain ⟨e0, e1, g0, g1⟩ := m5.two
          have hne : (Value.slice sa sn sc).ownBlock ≠ some (r9 + 1) := fun h => by have := ho5.base_le h; omega
          have hz5 := hb5.size
          go_wp2_with fail
          obtain ⟨w6, hw6, m6, hp6, hv6, hs6⟩ := put2 m5 (.slice sa sn sc) (.int .i64 xp)
          rw [hw6]
          have hz6 := ho5.keptB2 hne hw6
          have hxx := hx5.below (hp6.mono (by omega)) (show wc.heap.size ≤ w6.heap.size by have := hp6.size; omega)
          go_meet
          exact ⟨.slice sa sn sc, rfl, m6, hz6, hxx, ab5.below hp6 (by omega), q5.below hp6 (by omega), (hq4.trans (hb5.mono (by omega))).trans (hp6.mono (by omega))⟩
        · have t : (yc == (0 : Int)) = false := by simp [hyc]
          have g1 := G1.out
          rw [if_neg hyc] at g1
          simp only [Prod.mk.injEq, St.mk.injEq] at g1
          obtain ⟨⟨rfl, rfl⟩, rfl⟩ := g1
          go_wp2_with fail
          go_meet
          exact ⟨.slice ra rn rc, rfl, m4, ho4.byts, hx4.below (Below.refl _ _) (by omega), ab4, q4, hq4⟩
      case rest =>
        obtain ⟨z, rfl, m7, hz7, hx7, ab7, q7, hq7⟩ := hcut
        clear hx4 hq4 ho4 n4 m4 ab4 q4 G1 G3 HYS
        obtain ⟨za, zn, rfl, hzn, hzm, _⟩ := id hz7
        go_upto_region 10 with fail
        go_cut [81] from 63 to 80 (fun s81 wx => s81 = .bool false ∧ Byts wx.heap.size wx (.slice ya xd.length yn) xd ∧ Blk wx r #[.slice ya xd.length yn, .int .i64 xp] 27 ∧ Blk wx w.heap.size #[.slice xa d.length cap, .int .i64 p] 27 ∧ Below w.heap.size w wx)
        case first =>
          have t1 : (ec != ec) = false := by simp
          refine region_plain (fun W => Blk W r #[.slice ya xd.length yn, .int .i64 xp] 27 ∧ Blk W (r9 + 1) #[.slice za xd.length zn, .int .i64 xp] 27) [] (by kernel_rfl) ?_
          have q0 : Blk wc.drew r #[.slice ya xd.length yn, .int .i64 xp] 27 ∧ Blk wc.drew (r9 + 1) #[.slice za xd.length zn, .int .i64 xp] 27 := ⟨ab7, m7⟩
          refine wpAnyD_take (i := 0) (v := .int .i64 ec) rfl (by kernel_rfl) (by kernel_rfl) (by kernel_rfl) (by kernel_rfl) (by kernel_rfl) (fun _ _ _ h => h) (.inl ⟨by kernel_rfl, fun W' hS => by go_simp⟩) q0 ?_
          refine wpAnyD_take (i := 1) (v := .int .i64 ec) rfl (by kernel_rfl) (by kernel_rfl) (by kernel_rfl) (by kernel_rfl) (by kernel_rfl) (fun _ _ _ h => h) (.inl ⟨by kernel_rfl, fun W' hS => by go_simp⟩) q0 ?_
          refine wpAnyD_take (i := 2) (v := .bool false) rfl (by kernel_rfl) (by kernel_rfl) (by kernel_rfl) (by kernel_rfl) (by kernel_rfl) (fun _ _ _ h => h) (.inl ⟨by kernel_rfl, fun W' hS => by go_simp⟩) q0 ?_
          refine wpAnyD_take (i := 3) (v := .bool false) rfl (by kernel_rfl) (by kernel_rfl) (by kernel_rfl) (by kernel_rfl) (by kernel_rfl) (fun _ _ _ h => h) (.inl ⟨by kernel_rfl, fun W' hS => by go_simp⟩) q0 ?_
          refine wpAnyD_take (i := 4) (v := .agg #[.slice ya xd.length yn, .int .i64 xp]) rfl (by kernel_rfl) (by kernel_rfl) (by kernel_rfl) (by kernel_rfl) (by kernel_rfl) (fun _ _ _ h => h) (.inl ⟨by kernel_rfl, fun W' hS => by obtain ⟨c0, c1, f0, f1⟩ := hS.1.two; go_simp⟩) q0 ?_
          refine wpAnyD_take (i := 6) (v := .agg #[.slice za xd.length zn, .int .i64 xp]) rfl (by kernel_rfl) (by kernel_rfl) (by kernel_rfl) (by kernel_rfl) (by kernel_rfl) (fun _ _ _ h => h) (.inl ⟨by kernel_rfl, fun W' hS => by obtain ⟨c0, c1, f0, f1⟩ := hS.2.two; go_simp⟩) q0 ?_
          refine wpAnyD_one (i := 5) (by kernel_rfl) rfl (by kernel_rfl) ?_
          go_simp
          refine (store_any _ _ _ _ _).mono ?_
          rintro e w1 ⟨rfl, hb1⟩
          have q1 : Blk w1 r #[.slice ya xd.length yn, .int .i64 xp] 27 ∧ Blk w1 (r9 + 1) #[.slice za xd.length zn, .int .i64 xp] 27 := ⟨q0.1.below hb1 ab7.lt, q0.2.below hb1 m7.lt⟩
          refine ⟨q1, ?_⟩
          refine wpAnyD_one (i := 7) (by kernel_rfl) rfl (by kernel_rfl) ?_
          go_simp
          refine (store_any _ _ _ _ _).mono ?_
          rintro e w2 ⟨rfl, hb2⟩
          have q2 : Blk w2 r #[.slice ya xd.length yn, .int .i64 xp] 27 ∧ Blk w2 (r9 + 1) #[.slice za xd.length zn, .int .i64 xp] 27 := ⟨q1.1.below hb2 q1.1.lt, q1.2.below hb2 q1.2.lt⟩
          refine ⟨q2, ?_⟩
          have hb1 : Below wc.heap.size wc w1 := ((Below.refl _ wc).drew).trans hb1
          have hb2' : Below wc.heap.size wc w2 := hb1.trans (hb2.mono hb1.size)
          have hx8 := hx7.below hb2' hb2'.size
          have hz8 := hz7.below hb2' hb2'.size
          refine wpAnyD_one (i := 8) (by kernel_rfl) rfl (by kernel_rfl) ?_
          go_simp
          refine (sameStore_any w2.heap.size _ _ ⟨xd, xp⟩ ⟨xd, xp⟩ w2 hx8 hz8 (Nat.le_refl _)).mono ?_
          rintro e w3 ⟨rfl, hb3⟩
          have q3 : Blk w3 r #[.slice ya xd.length yn, .int .i64 xp] 27 ∧ Blk w3 (r9 + 1) #[.slice za xd.length zn, .int .i64 xp] 27 := ⟨q2.1.below hb3 q2.1.lt, q2.2.below hb3 q2.2.lt⟩
          refine ⟨q3, ?_⟩
          have hb3' : Below wc.heap.size wc w3 := hb2'.trans (hb3.mono hb2'.size)
          have hx9 := hx7.below hb3' hb3'.size
          have hq9 := hq7.trans (hb3'.mono hq7.size)
          have q9 := q7.below hb3' q7.lt
          simp only [decide_true, Bool.and_self]
          refine wpAnyD_take (i := 9) (v := .bool false) rfl (by kernel_rfl) (by kernel_rfl) (by kernel_rfl) (by kernel_rfl) (by kernel_rfl) (fun _ _ _ h => h) (.inl ⟨by kernel_rfl, fun W' hS => by go_simp⟩) q3 ?_
          refine wpAnyD_take (i := 10) (v := .bool false) rfl (by kernel_rfl) (by kernel_rfl) (by kernel_rfl) (by kernel_rfl) (by kernel_rfl) (fun _ _ _ h => h) (.inl ⟨by kernel_rfl, fun W' hS => by go_simp⟩) q3 ?_
          refine wpAnyD_take (i := 11) (v := .bool false) rfl (by kernel_rfl) (by kernel_rfl) (by kernel_rfl) (by kernel_rfl) (by kernel_rfl) (fun _ _ _ h => h) (.inl ⟨by kernel_rfl, fun W' hS => by go_simp⟩) q3 ?_
          rcases G2.out with rfl | rfl
          · refine wpAnyD_take (i := 12) (v := .int .i64 0) rfl (by kernel_rfl) (by kernel_rfl) (by kernel_rfl) (by kernel_rfl) (by kernel_rfl) (fun _ _ _ h => h) (.inl ⟨by kernel_rfl, fun W' hS => by go_simp⟩) q3 ?_
            refine wpAnyD_take (i := 13) (v := .bool false) rfl (by kernel_rfl) (by kernel_rfl) (by kernel_rfl) (by kernel_rfl) (by kernel_rfl) (fun _ _ _ h => h) (.inl ⟨by kernel_rfl, fun W' hS => by go_simp⟩) q3 ?_
            refine wpAnyD_take (i := 14) (v := .bool false) rfl (by kernel_rfl) (by kernel_rfl) (by kernel_rfl) (by kernel_rfl) (by kernel_rfl) (fun _ _ _ h => h) (.inl ⟨by kernel_rfl, fun W' hS => by go_simp⟩) q3 ?_
            refine wpAnyD_take (i := 15) (v := undef) rfl (by kernel_rfl) (by kernel_rfl) (by kernel_rfl) (by kernel_rfl) (by kernel_rfl) (fun _ _ _ h => h) (.inr ⟨by kernel_rfl, rfl⟩) q3 ?_
            refine wpAnyD_take (i := 16) (v := undef) rfl (by kernel_rfl) (by kernel_rfl) (by kernel_rfl) (by kernel_rfl) (by kernel_rfl) (fun _ _ _ h => h) (.inr ⟨by kernel_rfl, rfl⟩) q3 ?_
            refine wpAnyD_take (i := 17) (v := .bool false) rfl (by kernel_rfl) (by kernel_rfl) (by kernel_rfl) (by kernel_rfl) (by kernel_rfl) (fun _ _ _ h => h) (.inl ⟨by kernel_rfl, fun W' hS => by go_simp⟩) q3 ?_
            refine wpAnyD_take (i := 18) (v := .bool false) rfl (by kernel_rfl) (by kernel_rfl) (by kernel_rfl) (by kernel_rfl) (by kernel_rfl) (fun _ _ _ h => h) (.inl ⟨by kernel_rfl, fun W' hS => by go_simp⟩) q3 ?_
            refine wpAnyD_done (by kernel_rfl) ?_ _
            go_wp2_with fail
            go_meet
            exact ⟨rfl, hx9, q3.1, q9, hq9⟩
          · refine wpAnyD_take (i := 12) (v := .int .i64 370) rfl (by kernel_rfl) (by kernel_rfl) (by kernel_rfl) (by kernel_rfl) (by kernel_rfl) (fun _ _ _ h => h) (.inl ⟨by kernel_rfl, fun W' hS => by go_simp⟩) q3 ?_
            refine wpAnyD_take (i := 13) (v := .bool true) rfl (by kernel_rfl) (by kernel_rfl) (by kernel_rfl) (by kernel_rfl) (by kernel_rfl) (fun _ _ _ h => h) (.inl ⟨by kernel_rfl, fun W' hS => by go_simp⟩) q3 ?_
            refine wpAnyD_take (i := 14) (v := .bool true) rfl (by kernel_rfl) (by kernel_rfl) (by kernel_rfl) (by kernel_rfl) (by kernel_rfl) (fun _ _ _ h => h) (.inl ⟨by kernel_rfl, fun W' hS => by go_simp⟩) q3 ?_
            refine wpAnyD_take (i := 15) (v := .int .i64 370) rfl (by kernel_rfl) (by kernel_rfl) (by kernel_rfl) (by kernel_rfl) (by kernel_rfl) (fun _ _ _ h => h) (.inl ⟨by kernel_rfl, fun W' hS => by go_simp⟩) q3 ?_
            refine wpAnyD_take (i := 16) (v := .bool false) rfl (by kernel_rfl) (by kernel_rfl) (by kernel_rfl) (by kernel_rfl) (by kernel_rfl) (fun _ _ _ h => h) (.inl ⟨by kernel_rfl, fun W' hS => by go_simp⟩) q3 ?_
            refine wpAnyD_take (i := 17) (v := .bool false) rfl (by kernel_rfl) (by kernel_rfl) (by kernel_rfl) (by kernel_rfl) (by kernel_rfl) (fun _ _ _ h => h) (.inl ⟨by kernel_rfl, fun W' hS => by go_simp⟩) q3 ?_
            refine wpAnyD_take (i := 18) (v := .bool false) rfl (by kernel_rfl) (by kernel_rfl) (by kernel_rfl) (by kernel_rfl) (by kernel_rfl) (fun _ _ _ h => h) (.inl ⟨by kernel_rfl, fun W' hS => by go_simp⟩) q3 ?_
            refine wpAnyD_done (by kernel_rfl) ?_ _
            go_wp2_with fail
            go_meet
            exact ⟨rfl, hx9, q3.1, q9, hq9⟩
        case rest =>
          clear hx7 ab7 q7 hq7 m7 hz7
          obtain ⟨rfl, hx8, ab8, q8, hq8⟩ := hcut
          obtain ⟨c0, c1, f0, f1⟩ := q8.two
          obtain ⟨e0, e1, g0, g1⟩ := ab8.two
          have hlp := G7.out.1
          have hd13 : d.length ≤ 2 ^ 13 - 1 := by have := H1.out; omega
          have ha13 : a.length ≤ 2 ^ 13 - 1 := by have := H2.out; omega
          have hb13 : b.length ≤ 2 ^ 13 - 1 := by have := H3.out; omega
          go_upto_region 13 with fail
          go_cut [138] from 91 to 137 (fun s138 wx => s138 = .bool false ∧ wx = wc)
          case first =>
            clear hx8 q8 ab8 hlp
            rcases G2.out with rfl | rfl
            · have hx := G5.out rfl
              have t1 : ((xd.length : Int) != (d.length : Int) + (a.length : Int) + (b.length : Int)) = false := by simp; omega
              rcases G4.out.1 rfl with rfl | hlp
              · clear hx
                go_wp2_with fail
                go_meet
                exact ⟨rfl, rfl⟩
              · have t2 : (p == (-1 : Int)) = false := by simp; omega
                have t3 : decide ((a.length : Int) + (b.length : Int) ≤ p) = true := by simp; omega
                clear hx hlp
                go_wp2_with fail
                go_meet
                exact ⟨rfl, rfl⟩
            · obtain ⟨hx, rfl⟩ := G6.out (by decide)
              have hno := G4.out
              have t1 : ((xd.length : Int) != (d.length : Int) + p) = false := by simp; omega
              have t2 : (p == (-1 : Int)) = false := by simp; omega
              have t3 : decide ((a.length : Int) + (b.length : Int) ≤ p) = false := by simp; omega
              have hp14 : p ≤ 2 ^ 14 := by omega
              have hp15 : 0 ≤ p := by omega
              clear hx hno
              go_wp2_with fail
              go_meet
              exact ⟨rfl, rfl⟩
          case rest =>
            obtain ⟨rfl, rfl⟩ := hcut
            have hly : d.length ≤ yn := by omega
            have hbd := hx8.take d.length hlp
            rw [G7.out.2] at hbd
            have s1 : ∀ m, (convert 25 9 (.slice ya d.length yn)).run Try.prog (wc.drewN m) = .ok (.string ⟨d.toArray⟩) (wc.drewN m) := fun m => conv_str (hbd.drewN m)
            have hbx := HV.out.below hq8 (Nat.le_refl _)
            have s2 : ∀ m, (convert 25 9 (.slice xa d.length cap)).run Try.prog (wc.drewN m) = .ok (.string ⟨d.toArray⟩) (wc.drewN m) := fun m => conv_str (hbx.drewN m)
            go_wp2_with fail
            go_quiet (fail)
            go_wp2_with fail
            refine (cut_any wc.heap.size _ ⟨xd, xp⟩ (d.length : Int) _ (hx8.drewN nq) (Nat.le_refl _) xpow).mono ?_
            rintro e w10 ⟨v10, rfl, ho10, hb10⟩
            have hb10 : Below wc.heap.size wc w10 := (below_drewN' nq).trans hb10
            have q10 := q8.below hb10 q8.lt
            have ab10 := ab8.below hb10 ab8.lt
            have hq10 := hq8.trans (hb10.mono hq8.size)
            have hn10 := ho10.notNew
            have g8 := G8.out
            have g9 := G9.out
            obtain ⟨cs, hcs⟩ : ∃ cs, cutS ⟨xd, xp⟩ d.length = cs := ⟨_, rfl⟩
            rw [hcs] at g8 g9 ho10 ⊢
            clear hcs s1 s2 hbd hbx c0 c1 f0 f1 e0 e1 g0 g1
            obtain ⟨c0, c1, f0, f1⟩ := q10.two
            obtain ⟨e0, e1, g0, g1⟩ := ab10.two
            obtain ⟨⟨cd, cp⟩, cc⟩ := cs
            simp only at g8 g9 ho10 ⊢
            obtain ⟨sa, sn, sc, rfl⟩ := ownBlock_of_OwnB ho10
            have hz10 := q10.lt
            have hr10 := ab10.lt
            by_cases hlt : d.length < xd.length
            · have t1 : decide ((d.length : Int) < (xd.length : Int)) = true := by simp; omega
              by_cases hxp : xp = 0
              · have hv := g8 hlt hxp
                simp only [Prod.mk.injEq, zSt, St.mk.injEq] at hv
                obtain ⟨⟨rfl, rfl⟩, rfl⟩ := hv
                have t2 : (xp == (0 : Int)) = true := by simp [hxp]
                obtain ⟨_, _, hs, _⟩ := ho10.byts
                simp only [List.length_nil, Value.slice.injEq] at hs
                obtain ⟨rfl, rfl, rfl⟩ := hs
                clear g8 g9 hlp hxp
                go_wp2_with fail
                all_goals (go_ret; exact ⟨rfl, hq10.alloc (by omega) _⟩)
              · have t2 : (xp == (0 : Int)) = false := by simp [hxp]
                obtain ⟨hcc, hcd⟩ := g9 (fun h => hxp h.2)
                subst hcc
                subst hcd
                clear g8 g9 hlp hxp
                have hk := (Below.refl w10.heap.size w10).alloc (Nat.le_refl _) (.cells #[.slice sa sn sc, .int .i64 cp] 27)
                have s1 := conv_str (ho10.byts.below hk (Nat.le_refl _))
                have s2 := conv_str ((HV.out.below hq10 (Nat.le_refl _)).below (hk.mono (by omega)) (Nat.le_refl _))
                obtain ⟨_, _, hs, _⟩ := ho10.byts
                simp only [Value.slice.injEq] at hs
                obtain ⟨rfl, rfl, rfl⟩ := hs
                go_wp2_with fail
                all_goals (go_ret; exact ⟨rfl, hq10.alloc (by omega) _⟩)
            · have t1 : decide ((d.length : Int) < (xd.length : Int)) = false := by simp; omega
              obtain ⟨hcc, hcd⟩ := g9 (fun h => hlt h.1)
              subst hcc
              subst hcd
              clear g8 g9 hlp
              have hk := (Below.refl w10.heap.size w10).alloc (Nat.le_refl _) (.cells #[.slice sa sn sc, .int .i64 cp] 27)
              have s1 := conv_str (ho10.byts.below hk (Nat.le_refl _))
              have s2 := conv_str ((HV.out.below hq10 (Nat.le_refl _)).below (hk.mono (by omega)) (Nat.le_refl _))
              obtain ⟨_, _, hs, _⟩ := ho10.byts
              simp only [Value.slice.injEq] at hs
              obtain ⟨rfl, rfl, rfl⟩ := hs
              go_wp2_with fail
              all_goals (go_ret; exact ⟨rfl, hq10.alloc (by omega) _⟩)
end Go.Proofs.Ytkdlimigepkepaa
