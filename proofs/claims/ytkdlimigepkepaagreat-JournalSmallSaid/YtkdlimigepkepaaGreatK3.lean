/- The laws' kit: slices of bytes that share no memory: flatBytes. No conditions beyond sizes. -/
import Derived.Test.YtkdlimigepkepaaGreatKTwo
import Derived.Test.YtkdlimigepkepaaGreatK1
namespace Go.Proofs.YtkdlimigepkepaaGreat
open Go.RowKit
set_option linter.unusedVariables false

theorem OwnB.some' {base : Nat} {W : World} {v : Value} {l : List UInt8} (h : OwnB base W v l) (h0 : 0 < l.length) : ∃ g cap, v = .slice (some ⟨g, 0, none⟩) l.length cap ∧ base ≤ g ∧ g < W.heap.size ∧ l.length ≤ cap ∧ cap ≤ 2 ^ 63 - 1 ∧
    (∀ i, i < l.length → W.cell? ⟨g, i, none⟩ = some (B (l[i]?.getD 0))) ∧ (∀ i, W.frozen? ⟨g, i, none⟩ = false) := by
  rcases id h.2 with ⟨_, h1⟩ | ⟨g, cap, cur, rfl, hb, hg, h1, h2, h3, h4⟩
  · omega
  · refine ⟨g, cap, rfl, hb, (Array.getElem?_eq_some_iff.1 hg).1, h1, by unfold maxLen at h2; omega, fun i hi => ?_, fun i => by simp [World.frozen?, hg]⟩
    have := World.ownsRow.cells h (g := g) rfl i (B (l[i]?.getD 0)) (by simp [hi])
    rw [Addr.add] at this
    by_cases h0 : i = 0
    · subst h0; simpa using this
    · simpa [h0] using this
theorem Blk.ne_own {base : Nat} {W : World} {v : Value} {l : List UInt8} {b t : Nat} {cs : Array Value} (h : Blk W b cs t) (ht : t ≠ 5) (ho : OwnB base W v l) : v.ownBlock ≠ some b := by
  intro e
  rcases ho.2 with ⟨rfl, _⟩ | ⟨g, cap, cur, rfl, _, hg, _⟩
  · cases e
  · simp only [Value.ownBlock, Option.some.injEq] at e
    subst e
    unfold Blk at h
    rw [hg] at h
    simp only [Option.some.injEq, Obj.cells.injEq] at h
    exact ht h.2.1.symm

/-- The first m bytes are the marks of row k. -/
def Mk (k : Nat) (l : List UInt8) (m : Nat) : Prop := ∀ t, t < m → l[t]?.getD 0 = mb k t
theorem Mk.snoc {k m : Nat} {l : List UInt8} (h : Mk k l m) (hl : l.length = m) : Mk k (l ++ [mb k m]) (m + 1) := by
  intro t ht
  by_cases h1 : t < m
  · rw [List.getElem?_append_left (by omega)]; exact h t h1
  · obtain rfl : t = m := by omega
    rw [← hl, List.getElem?_concat_length]; rfl
theorem Mk.append {k m : Nat} {l r : List UInt8} (h : Mk k l m) (hl : m ≤ l.length) : Mk k (l ++ r) m := by
  intro t ht
  rw [List.getElem?_append_left (by omega)]; exact h t ht
theorem Mk.set {k m : Nat} {l : List UInt8} (h : Mk k l m) (hl : m < l.length) : Mk k (l.set m (mb k m)) (m + 1) := by
  intro t ht
  by_cases h1 : t < m
  · rw [List.getElem?_set_ne (by omega)]; exact h t h1
  · obtain rfl : t = m := by omega
    rw [List.getElem?_set_self hl]; rfl

structure FS (base : Nat) (w W : World) (N lb : Nat) (lcs : Array Value) (F : Nat → Value) (D : Nat → List UInt8) (G : Nat → Value) (E : Nat → List UInt8) : Prop where
  two : Two base W N F D G E
  row : Blk W lb lcs 22
  bel : Below base w W
  size : base ≤ W.heap.size
  oth : ∀ b cs t, t ≠ 5 → Blk w b cs t → Blk W b cs t
section
variable {base : Nat} {w W W' : World} {N lb : Nat} {lcs : Array Value} {F : Nat → Value} {D : Nat → List UInt8} {G : Nat → Value} {E : Nat → List UInt8}
theorem FS.below (h : FS base w W N lb lcs F D G E) (hb : Below W.heap.size W W') : FS base w W' N lb lcs F D G E :=
  ⟨h.two.below hb (Nat.le_refl _), h.row.below hb h.row.lt, h.bel.trans (hb.mono h.size), Nat.le_trans h.size hb.size, fun b cs t ht hq => by have := h.oth b cs t ht hq; exact this.below hb this.lt⟩
/-- A cell of another block. -/
theorem FS.cell (h : FS base w W N lb lcs F D G E) {r i : Nat} {x : Value} (hr : ∀ k, k < N → ¬ Bl F G k r) (hl : lb ≠ r) (hb : base ≤ r) (hnew : w.heap.size ≤ r) : FS base w (W.setCell ⟨r, i, none⟩ x) N lb lcs F D G E :=
  ⟨h.two.kept (grownBy_setCell W r i x) hr, h.row.other hl x, h.bel.setCell hb x, by simpa using h.size, fun b cs t ht hq => (h.oth b cs t ht hq).other (by have := hq.lt; omega) x⟩
theorem FS.notRow (h : FS base w W N lb lcs F D G E) {b : Nat} {cs : Array Value} (hq : Blk W b cs 22) : ∀ k, k < N → ¬ Bl F G k b := by
  intro k hk hb
  rcases hb with hb | hb
  · exact hq.ne_own (by decide) (h.two.f k hk) hb
  · exact hq.ne_own (by decide) (h.two.g k hk) hb
theorem FS.put (h : FS base w W N lb lcs F D G E) {k : Nat} (hk : k < N) {y y' : Value} {dy l : List UInt8} (hy : OwnB base W y dy) (hyb : ∀ b, y.ownBlock = some b → Bl F G k b) (hle : (D k).length ≤ dy.length) (hy' : OwnB base W' y' (dy ++ l))
    (hat : (∃ g n m cap, y = .slice (some ⟨g, 0, none⟩) n cap ∧ y' = .slice (some ⟨g, 0, none⟩) m cap ∧ n ≤ m ∧ W.grownBy W' (some g)) ∨ (W.grownBy W' none ∧ y'.ownBlock = some W.heap.size)) :
    FS base w W' N lb lcs F D (upd G k y') (upd E k (dy ++ l)) ∧ (∀ b cs, Blk W b cs 22 → Blk W' b cs 22) := by
  have hkeep : ∀ b cs t, t ≠ 5 → Blk W b cs t → Blk W' b cs t := by
    intro b cs t ht hq
    rcases hat with ⟨g, n, m, cap, rfl, rfl, _, hg⟩ | ⟨hg, _⟩
    · exact hq.kept hg (fun e => hq.ne_own ht hy e.symm)
    · exact hq.kept hg (by simp)
  have hbel : Below base W W' := by
    rcases hat with ⟨g, n, m, cap, rfl, rfl, _, hg⟩ | ⟨hg, _⟩
    · exact below_of_grown hg (fun r hr => by cases hr; exact hy.base_le' rfl) h.size
    · exact below_of_grown hg (fun r hr => nomatch hr) h.size
  exact ⟨⟨h.two.put hk hy hyb hle hy' hat, hkeep _ _ _ (by decide) h.row, h.bel.trans hbel, Nat.le_trans h.size hbel.size, fun b cs t ht hq => hkeep _ _ _ ht (h.oth b cs t ht hq)⟩, fun b cs hq => hkeep _ _ _ (by decide) hq⟩
theorem FS.set (h : FS base w W N lb lcs F D F D) {k : Nat} (hk : k < N) {g n cap : Nat} (hv : F k = .slice (some ⟨g, 0, none⟩) n cap) (i : Nat) (hi : i < (D k).length) (x : UInt8) :
    FS base w (W.setCell ⟨g, i, none⟩ (B x)) N lb lcs F (upd D k ((D k).set i x)) F (upd D k ((D k).set i x)) := by
  have hne : lb ≠ g := fun e => h.row.ne_own (by decide) (h.two.f k hk) (by rw [hv, e]; rfl)
  have hbg : base ≤ g := (h.two.f k hk).base_le' (by rw [hv]; rfl)
  exact ⟨h.two.set hk hv i hi x, h.row.other hne _, h.bel.setCell hbg _, by simpa using h.size, fun b cs t ht hq => (h.oth b cs t ht hq).other (fun e => (h.oth b cs t ht hq).ne_own ht (h.two.f k hk) (by rw [hv, e]; rfl)) _⟩
end
theorem row_blk {W : World} {base g N : Nat} {xs : List Value} (h : W.ownsRow base 22 1 (.slice (some ⟨g, 0, none⟩) N N) N xs) : ∃ cs, Blk W g cs 22 ∧ cs.size = N := by
  rcases h.2 with ⟨he, _⟩ | ⟨g', cap', cur, he, hb, hg, h1, h2, h3, h4⟩
  · cases he
  · simp only [Value.slice.injEq, Option.some.injEq, Addr.mk.injEq, and_true] at he
    obtain ⟨rfl, _, rfl⟩ := he
    exact ⟨cur, hg, by omega⟩
def SR (lb : Nat) (lcs : Array Value) (W : World) : Prop := Blk W lb lcs 22

theorem made_bytes : (madeCells (Value.int .u8 0).cells (64 * 1)).toList = (List.replicate 64 (0 : UInt8)).map B := by kernel_rfl

set_option maxRecDepth 100000 in
set_option maxHeartbeats 8000000 in
theorem flatB_any (base : Nat) (w : World) (N lcap lb : Nat) (lcs : Array Value) (F : Nat → Value) (D0 : Nat → List UInt8) (h : FS base w w N lb lcs F D0 F D0) (hN : N ≤ lcap) (hlc : lcap ≤ 2 ^ 63 - 1) (hget : ∀ k, k < N → lcs[k]? = some (F k))
    (hsmall : ∀ k, k < N → (D0 k).length ≤ 2 ^ 22) (hN20 : N ≤ 2 ^ 20) :
    Calls Tryz.prog 50 #[.slice (some ⟨lb, 0, none⟩) N lcap] w fun e w' => e = .returned (.bool true) ∧ Below base w w' ∧ (∀ b cs t, t ≠ 5 → Blk w b cs t → Blk w' b cs t) := by
  obtain ⟨n, hn⟩ : ∃ n : Nat → Nat, n = fun k => (D0 k).length := ⟨_, rfl⟩
  have hsm : ∀ k, k < N → n k ≤ 2 ^ 22 := by rw [hn]; exact hsmall
  have hn0 : ∀ j, (D0 j).length = n j := fun j => by rw [hn]
  have HG := Lib.hid hget; have HS := Lib.hid hsm
  clear hget hsmall hsm hn
  go_enter Tryz.func50, Tryz.ntmps50
  go_wp2_with fail
  go_loopw [3, 4] (fun s3 s4 wr => ∃ (k : Nat) (D : Nat → List UInt8), k ≤ N ∧ s3 = .int .i64 (k : Nat) ∧ (∀ j, (D j).length = n j) ∧ (∀ j, j < k → Mk j (D j) (n j)) ∧ FS base w wr N lb lcs F D F D) (fun s3 _ _ => N - (intOf s3).toNat)
  case atStart => exact ⟨0, D0, Nat.zero_le _, rfl, hn0, fun j hj => absurd hj (Nat.not_lt_zero _), h⟩
  case round =>
    obtain ⟨k, D, hk, rfl, hDl, hDm, hfs⟩ := hrel
    clear h hn0
    by_cases hlt : k < N
    · have hFk := HG.out k hlt
      have hnk := HS.out k hlt
      obtain ⟨fa, fc, hFe, hf1, hf2⟩ := (hfs.two.f k hlt).form
      rw [hDl k] at hFe hf1
      have hf3 : fc ≤ 2 ^ 63 - 1 := by unfold maxLen at hf2; omega
      have HFE := Lib.hid hFe
      have HDL := Lib.hid hDl; have HDM := Lib.hid hDm
      clear hf2 hDl hDm hFe
      go_wp2_with fail
      go_loopw [4] (fun s4 wx => ∃ (i : Nat) (D' : Nat → List UInt8), i ≤ n k ∧ s4 = .int .i64 (i : Nat) ∧ (∀ j, (D' j).length = n j) ∧ (∀ j, j < k → Mk j (D' j) (n j)) ∧ Mk k (D' k) i ∧ FS base w wx N lb lcs F D' F D') (fun s4 _ => n k - (intOf s4).toNat)
      case atStart => exact ⟨0, D, Nat.zero_le _, rfl, HDL.out, HDM.out, fun t ht => absurd ht (Nat.not_lt_zero _), hfs⟩
      case round =>
        obtain ⟨i, D', hi, rfl, hDl', hDm', hmk, hfs'⟩ := hrel
        clear hfs
        have hcl : wr.cell? ⟨lb, k, none⟩ = some (.slice fa (n k) fc) := by rw [← HFE.out]; exact hfs'.row.at hFk
        by_cases hlt2 : i < n k
        · have hown := hfs'.two.f k hlt
          obtain ⟨g, cap, hge, hgb, hgs, hgc, hgm, hgcell, hgf⟩ := hown.some' (by rw [hDl' k]; omega)
          rw [hDl' k, HFE.out] at hge
          simp only [Value.slice.injEq, true_and] at hge
          obtain ⟨rfl, rfl⟩ := hge
          have hcell := hgcell i (by rw [hDl' k]; exact hlt2)
          have hfz := hgf i
          obtain ⟨x, hx⟩ : ∃ x, B ((D' k)[i]?.getD 0) = x := ⟨_, rfl⟩
          rw [hx] at hcell
          have HD1 := Lib.hid hDl'; have HD2 := Lib.hid hDm'; have HD3 := Lib.hid hmk
          clear hx hgcell hgf hDl' hDm' hmk hown
          go_upto_region 7 with fail
          refine region_plain (SR lb lcs) [] (by kernel_rfl) ?_
          have q0 : SR lb lcs wr.drew := hfs'.row
          have HCL : Hid (∀ W', SR lb lcs W' → W'.cell? ⟨lb, k, none⟩ = some (.slice (some ⟨g, 0, none⟩) (n k) fc)) := fun W' hS => by rw [← HFE.out]; exact Blk.at hS hFk
          refine wpAnyD_take (i := 0) (v := .slice (some ⟨lb, 0, none⟩) N lcap) rfl (by kernel_rfl) (by kernel_rfl) (by kernel_rfl) (by kernel_rfl) (by kernel_rfl) (fun _ _ _ h => h) (.inl ⟨by kernel_rfl, fun W' hS => by go_simp⟩) q0 ?_
          refine wpAnyD_take (i := 1) (v := .int .i64 (k : Nat)) rfl (by kernel_rfl) (by kernel_rfl) (by kernel_rfl) (by kernel_rfl) (by kernel_rfl) (fun _ _ _ h => h) (.inl ⟨by kernel_rfl, fun W' hS => by go_simp⟩) q0 ?_
          refine wpAnyD_take (i := 2) (v := .pointer (some ⟨lb, k, none⟩)) rfl (by kernel_rfl) (by kernel_rfl) (by kernel_rfl) (by kernel_rfl) (by kernel_rfl) (fun _ _ _ h => h) (.inl ⟨by kernel_rfl, fun W' hS => by go_simp⟩) q0 ?_
          refine wpAnyD_take (i := 3) (v := .slice (some ⟨g, 0, none⟩) (n k) fc) rfl (by kernel_rfl) (by kernel_rfl) (by kernel_rfl) (by kernel_rfl) (by kernel_rfl) (fun _ _ _ h => h) (.inl ⟨by kernel_rfl, fun W' hS => by have h2 : W'.cell? ⟨lb, k, none⟩ = some (.slice (some ⟨g, 0, none⟩) (n k) fc) := HCL.out W' hS; go_simp⟩) q0 ?_
          refine wpAnyD_take (i := 4) (v := .int .i64 (i : Nat)) rfl (by kernel_rfl) (by kernel_rfl) (by kernel_rfl) (by kernel_rfl) (by kernel_rfl) (fun _ _ _ h => h) (.inl ⟨by kernel_rfl, fun W' hS => by go_simp⟩) q0 ?_
          refine wpAnyD_take (i := 5) (v := .int .i64 (k : Nat)) rfl (by kernel_rfl) (by kernel_rfl) (by kernel_rfl) (by kernel_rfl) (by kernel_rfl) (fun _ _ _ h => h) (.inl ⟨by kernel_rfl, fun W' hS => by go_simp⟩) q0 ?_
          refine wpAnyD_take (i := 6) (v := .int .i64 (i : Nat)) rfl (by kernel_rfl) (by kernel_rfl) (by kernel_rfl) (by kernel_rfl) (by kernel_rfl) (fun _ _ _ h => h) (.inl ⟨by kernel_rfl, fun W' hS => by go_simp⟩) q0 ?_
          have hN30 : k ≤ 2 ^ 30 := by omega
          have hi30 : i ≤ 2 ^ 30 := by omega
          refine wpAnyD_one (i := 7) (by kernel_rfl) rfl (by kernel_rfl) ?_
          go_simp
          refine (markB_any k i _ _ wr.drew rfl rfl hN30 hi30).mono ?_
          rintro e w1 ⟨rfl, rfl⟩
          refine ⟨q0, ?_⟩
          have hcellD : wr.drew.cell? ⟨g, i, none⟩ = some x := hcell
          have hfzD : wr.drew.frozen? ⟨g, i, none⟩ = false := hfz
          have hfsD : FS base w wr.drew N lb lcs F D' F D' := hfs'.below (Below.refl _ wr).drew
          obtain ⟨W0, hW0⟩ : ∃ X, wr.drew = X := ⟨_, rfl⟩
          rw [hW0] at q0 hcellD hfzD hfsD ⊢
          clear hW0 hcell hfz hfs' hcl
          have hset := hfsD.set hlt HFE.out i (by rw [HD1.out k]; exact hlt2) (mb k i)
          refine wpAnyD_take (i := 8) (v := .pointer (some ⟨g, i, none⟩)) rfl (by kernel_rfl) (by kernel_rfl) (by kernel_rfl) (by kernel_rfl) (by kernel_rfl) (fun _ _ _ h => h) (.inl ⟨by kernel_rfl, fun W' hS => by go_simp⟩) q0 ?_
          refine wpAnyD_one (i := 9) (by kernel_rfl) rfl (by kernel_rfl) ?_
          go_simp
          refine ⟨hset.row, ?_⟩
          refine wpAnyD_done (by kernel_rfl) ?_ _
          go_wp2_with fail
          refine ⟨⟨i + 1, _, by omega, by go_num, fun j => ?_, fun j hj => ?_, ?_, hset⟩, ?_⟩
          · by_cases hjk : j = k
            · subst hjk; rw [upd_same, List.length_set]; exact HD1.out j
            · rw [upd_other _ _ hjk]; exact HD1.out j
          · rw [upd_other _ _ (by omega)]; exact HD2.out j hj
          · rw [upd_same]; exact HD3.out.set (by rw [HD1.out k]; exact hlt2)
          · simp [intOf]; omega
        · obtain rfl : i = n k := by omega
          go_wp2_with fail
          go_roundw
          case rel =>
            refine ⟨k + 1, D', by omega, by go_num, hDl', fun j hj => ?_, hfs'⟩
            by_cases hjk : j < k
            · exact hDm' j hjk
            · obtain rfl : j = k := by omega
              exact hmk
          case measure => simp [intOf]; omega
    · obtain rfl : k = N := by omega
      obtain ⟨i0, hi0, hz0, hz1, hz2⟩ := info_parts Tryz.infoBytes
      have hszw := hfs.size
      have hlbw := hfs.row.lt
      have hDM := Lib.hid hDm; have hDL := Lib.hid hDl
      clear hDm hDl
      go_wp2_with (at_make; refine wpList_make_full _ rfl (.tmp 41) (.tmp 41) 45 rfl base 22 i0 _ 1 Tryz.underlying45 hi0 hz0 hz1 .i64 .i64 _ _ k rfl rfl rfl rfl (by rw [hz2]; omega) (by unfold maxLen; omega) hszw ?_; intro w1 ho1 hg1; have hfs1 := hfs.below (below_of_grown hg1 (fun r hr => nomatch hr) (Nat.le_refl _)))
      obtain ⟨gcs0, hq0, hgs0⟩ := row_blk ho1
      obtain ⟨rb, hrb⟩ : ∃ x, wr.heap.size = x := ⟨_, rfl⟩
      rw [hrb] at hq0 hlbw hszw ⊢
      have hlr : lb ≠ rb := by omega
      have hrw : w.heap.size ≤ rb := by rw [← hrb]; exact hfs.bel.size
      clear hfs ho1 hg1 hrb
      go_loopw [6, 7, 8] (fun s6 s7 s8 wx => ∃ (q : Nat) (G : Nat → Value) (E : Nat → List UInt8) (gcs : Array Value), q ≤ k ∧ s6 = .int .i64 (q : Nat) ∧ (∀ j, j < q → (E j).length = n j + 64 ∧ Mk j (E j) (n j + 64)) ∧ (∀ j, q ≤ j → G j = F j ∧ E j = D j) ∧
          gcs.size = k ∧ (∀ j, j < q → gcs[j]? = some (G j)) ∧ Blk wx rb gcs 22 ∧ FS base w wx k lb lcs F D G E) (fun s6 _ _ _ => k - (intOf s6).toNat)
      case atStart => exact ⟨0, F, D, gcs0, Nat.zero_le _, rfl, fun j hj => absurd hj (Nat.not_lt_zero _), fun j _ => ⟨rfl, rfl⟩, hgs0, fun j hj => absurd hj (Nat.not_lt_zero _), hq0, hfs1⟩
      case round =>
        obtain ⟨q, G, E, gcs, hq, rfl, hE1, hE2, hgs, hgg, hqr, hfs⟩ := hrel
        clear hfs1 hq0 hgs0
        by_cases hltq : q < k
        · have hFq := HG.out q hltq
          have hnq := HS.out q hltq
          obtain ⟨fa, fc, hFe, hf1, hf2⟩ := (hfs.two.f q hltq).form
          rw [hDL.out q] at hFe hf1
          have hf3 : fc ≤ 2 ^ 63 - 1 := by unfold maxLen at hf2; omega
          have hcl := hfs.row.at hFq
          rw [hFe] at hcl
          have HFE := Lib.hid hFe; have HE1 := Lib.hid hE1; have HE2 := Lib.hid hE2; have HGG := Lib.hid hgg
          clear hf2 hE1 hE2 hFe hgg
          go_wp2_with fail
          go_loopw [7, 8] (fun s7 s8 wy => ∃ (i : Nat) (G' : Nat → Value) (E' : Nat → List UInt8), i ≤ 64 ∧ s8 = .int .i64 (i : Nat) ∧ s7 = G' q ∧ (E' q).length = n q + i ∧ Mk q (E' q) (n q + i) ∧ (∀ j, j ≠ q → G' j = G j ∧ E' j = E j) ∧ Blk wy rb gcs 22 ∧ FS base w wy k lb lcs F D G' E') (fun _ s8 _ => 64 - (intOf s8).toNat)
          case atStart =>
            have h1 := HE2.out q (Nat.le_refl _)
            exact ⟨0, G, E, Nat.zero_le _, rfl, by rw [h1.1, HFE.out], by rw [h1.2]; exact hDL.out q, by rw [h1.2]; exact hDM.out q hltq, fun j _ => ⟨rfl, rfl⟩, hqr, hfs⟩
          case round =>
            obtain ⟨i, G', E', hi, rfl, hs7, hEl, hEm, hoth, hqr', hfs'⟩ := hrel
            clear hfs hqr hcl
            obtain ⟨ga, gc, hGe, hg1, hg2⟩ := (hfs'.two.g q hltq).form
            rw [hEl] at hGe hg1
            have hg3 : gc ≤ 2 ^ 63 - 1 := by unfold maxLen at hg2; omega
            have hog := hfs'.two.g q hltq
            rw [hGe] at hs7 hog
            subst hs7
            have hcl : wr.cell? ⟨lb, q, none⟩ = some (.slice fa (n q) fc) := by rw [← HFE.out]; exact hfs'.row.at hFq
            have HGE := Lib.hid hGe; have HEL := Lib.hid hEl; have HEM := Lib.hid hEm; have HOTH := Lib.hid hoth
            clear hg2 hEl hEm hoth hGe
            by_cases hlt64 : i < 64
            · have t64 : decide ((i : Int) < (64 : Int)) = true := by simp; omega
              go_wp2_with fail
              refine (markB_any q (n q + i) _ _ wr rfl (by simp) (by omega) (by omega)).mono ?_
              rintro e w3 ⟨rfl, rfl⟩
              have hW1 : Below wr.heap.size wr (wr.alloc (.cells #[.int .u8 ((mb q (n q + i)).toNat : Int)] 5)) := (Below.refl _ wr).alloc (Nat.le_refl _) _
              have hfsA := hfs'.below hW1
              have hqrA := hqr'.alloc (.cells #[.int .u8 ((mb q (n q + i)).toNat : Int)] 5)
              have hogA := hog.alloc (.cells #[.int .u8 ((mb q (n q + i)).toNat : Int)] 5)
              have hone := Byts.one wr ((mb q (n q + i)).toNat : Int) 5 (mb q (n q + i)) rfl
              have hb63 : (E' q).length + [mb q (n q + i)].length ≤ 2 ^ 46 := by rw [HEL.out]; simp; omega
              have hszA := hfsA.size
              have hyb : ∀ b, (Value.slice ga (n q + i) gc).ownBlock = some b → Bl F G' q b := fun b hb => .inr (by rw [HGE.out]; exact hb)
              have hle := hfsA.two.le q hltq
              have HYB := Lib.hid hyb
              clear hW1 hfs' hqr' hog hyb
              go_wp2_with (at_builtin; refine wpList_append_two rfl (.tmp 57) (.tmp 67) rfl rfl rfl hogA hone (by simp) hb63 hszA ?_; intro v4 w4 ho4 hat4; obtain ⟨hfs4, hk4⟩ := hfsA.put hltq hogA HYB.out hle ho4 hat4; have hqr4 := hk4 _ _ hqrA)
              refine ⟨⟨i + 1, upd G' q v4, upd E' q (E' q ++ [mb q (n q + i)]), by omega, by go_num, by rw [upd_same], ?_, ?_, fun j hj => ?_, hqr4, hfs4⟩, ?_⟩
              · rw [upd_same, List.length_append, HEL.out]; rfl
              · rw [upd_same]; exact HEM.out.snoc HEL.out
              · rw [upd_other _ _ hj, upd_other _ _ hj]; exact HOTH.out j hj
              · simp [intOf]; omega
            · obtain rfl : i = 64 := by omega
              have hqk : q < gcs.size := by omega
              obtain ⟨y, hy⟩ : ∃ y, gcs[q]? = some y := ⟨_, Array.getElem?_eq_getElem hqk⟩
              have hce := hqr'.at hy
              have hcf := hqr'.free q
              have hqr5 := hqr'.set (i := q) (.slice ga (n q + 64) gc)
              have hfs5 := hfs'.cell (r := rb) (i := q) (x := .slice ga (n q + 64) gc) (hfs'.notRow hqr') hlr hszw hrw
              have HY := Lib.hid hy
              clear hqr' hfs' hy hog
              go_wp2_with fail
              go_roundw
              case rel =>
                refine ⟨q + 1, G', E', gcs.setIfInBounds q (.slice ga (n q + 64) gc), by omega, by go_num, fun j hj => ?_, fun j hj => ?_, by simpa using hgs, fun j hj => ?_, hqr5, hfs5⟩
                · by_cases hjq : j < q
                  · rw [(HOTH.out j (by omega)).2]; exact HE1.out j hjq
                  · obtain rfl : j = q := by omega
                    exact ⟨HEL.out, HEM.out⟩
                · rw [(HOTH.out j (by omega)).1, (HOTH.out j (by omega)).2]; exact HE2.out j (by omega)
                · by_cases hjq : j < q
                  · rw [Array.getElem?_setIfInBounds_ne (by omega), (HOTH.out j (by omega)).1]; exact HGG.out j hjq
                  · obtain rfl : j = q := by omega
                    rw [Array.getElem?_setIfInBounds_self_of_lt hqk, HGE.out]
              case measure => simp [intOf]; omega
        · obtain rfl : q = k := by omega
          have HE1 := Lib.hid hE1; have HGG := Lib.hid hgg
          clear hE1 hgg hE2
          go_wp2_with fail
          go_loopw [9, 10] (fun s9 s10 wx => ∃ (r : Nat), r ≤ q ∧ s9 = .int .i64 (r : Nat) ∧ Blk wx rb gcs 22 ∧ FS base w wx q lb lcs F D G E) (fun s9 _ _ => q - (intOf s9).toNat)
          case atStart => exact ⟨0, Nat.zero_le _, rfl, hqr, hfs⟩
          case round =>
            obtain ⟨r, hr, rfl, hqr1, hfs1⟩ := hrel
            clear hqr hfs
            by_cases hltr : r < q
            · have hFr := HG.out r hltr
              have hnr := HS.out r hltr
              obtain ⟨hEl, hEm⟩ := HE1.out r hltr
              obtain ⟨fa, fc, hFe, hf1, hf2⟩ := (hfs1.two.f r hltr).form
              obtain ⟨ga, gc, hGe, hg1, hg2⟩ := (hfs1.two.g r hltr).form
              rw [hDL.out r] at hFe hf1
              rw [hEl] at hGe hg1
              have hf3 : fc ≤ 2 ^ 63 - 1 := by unfold maxLen at hf2; omega
              have hg3 : gc ≤ 2 ^ 63 - 1 := by unfold maxLen at hg2; omega
              have hGr := HGG.out r hltr
              have HFE := Lib.hid hFe; have HGE := Lib.hid hGe; have HEL := Lib.hid hEl; have HEM := Lib.hid hEm
              clear hf2 hg2 hFe hGe hEl hEm
              go_wp2_with fail
              go_loopw [10] (fun s10 wy => ∃ (i : Nat), i ≤ n r + 64 ∧ s10 = .int .i64 (i : Nat) ∧ Blk wy rb gcs 22 ∧ FS base w wy q lb lcs F D G E) (fun s10 _ => n r + 64 - (intOf s10).toNat)
              case atStart => exact ⟨0, Nat.zero_le _, rfl, hqr1, hfs1⟩
              case round =>
                obtain ⟨i, hi, rfl, hqr2, hfs2⟩ := hrel
                clear hqr1 hfs1
                have hcl : wr.cell? ⟨lb, r, none⟩ = some (.slice fa (n r) fc) := by rw [← HFE.out]; exact hfs2.row.at hFr
                have hcg : wr.cell? ⟨rb, r, none⟩ = some (.slice ga (n r + 64) gc) := by rw [← HGE.out]; exact hqr2.at hGr
                by_cases hlti : i < n r + 64
                · have hti : decide ((i : Int) < (n r : Int) + 64) = true := by simp; omega
                  have hm : ∀ z, Calls Tryz.prog 36 #[.int .i64 (r : Nat), .int .i64 (i : Nat)] (wr.drewN z) fun e' w' => e' = .returned (.int .u8 ((mb r i).toNat : Int)) ∧ wr.drewN z = w' :=
                    fun z => markB_any r i _ _ _ rfl rfl (by omega) (by omega)
                  obtain ⟨g, cap, hge, _, _, _, _, hgcell, _⟩ := (hfs2.two.g r hltr).some' (by rw [HEL.out]; omega)
                  rw [HEL.out, HGE.out] at hge
                  simp only [Value.slice.injEq, true_and] at hge
                  obtain ⟨rfl, rfl⟩ := hge
                  have hc1 := hgcell i (by rw [HEL.out]; exact hlti)
                  rw [HEM.out i hlti] at hc1
                  by_cases hltn : i < n r
                  · obtain ⟨g2, cap2, hge2, _, _, _, _, hgcell2, _⟩ := (hfs2.two.f r hltr).some' (by rw [hDL.out]; omega)
                    rw [hDL.out, HFE.out] at hge2
                    simp only [Value.slice.injEq, true_and] at hge2
                    obtain ⟨rfl, rfl⟩ := hge2
                    have hc2 := hgcell2 i (by rw [hDL.out]; exact hltn)
                    rw [hDM.out r hltr i hltn] at hc2
                    obtain ⟨x, hx⟩ : ∃ x : Int, ((mb r i).toNat : Int) = x := ⟨_, rfl⟩
                    simp only [B, hx] at hc1 hc2
                    rw [hx] at hm
                    have HM := Lib.hid hm
                    clear hx hm hgcell hgcell2
                    go_wp2_with fail
                    go_quiet ((go_at_call 36; with_reducible exact quiet_eq (HM.out _)))
                    have hk := below_drewN' (B := wr.heap.size) (w := wr) nq
                    have hqr3 := hqr2.below hk hqr2.lt
                    have hfs3 := hfs2.below hk
                    clear hqr2 hfs2 hk
                    go_wp2_with fail
                    go_roundw
                    case rel => exact ⟨i + 1, by omega, by go_num, hqr3, hfs3⟩
                    case measure => simp [intOf]; omega
                  · obtain ⟨x, hx⟩ : ∃ x : Int, ((mb r i).toNat : Int) = x := ⟨_, rfl⟩
                    simp only [B, hx] at hc1
                    rw [hx] at hm
                    have HM := Lib.hid hm
                    clear hx hm hgcell
                    go_wp2_with fail
                    go_quiet ((go_at_call 36; with_reducible exact quiet_eq (HM.out _)))
                    have hk := below_drewN' (B := wr.heap.size) (w := wr) nq
                    have hqr3 := hqr2.below hk hqr2.lt
                    have hfs3 := hfs2.below hk
                    clear hqr2 hfs2 hk
                    go_wp2_with fail
                    go_roundw
                    case rel => exact ⟨i + 1, by omega, by go_num, hqr3, hfs3⟩
                    case measure => simp [intOf]; omega
                · obtain rfl : i = n r + 64 := by omega
                  have hti : decide (((n r + 64 : Nat) : Int) < (n r : Int) + 64) = false := by simp
                  go_wp2_with fail
                  go_roundw
                  case rel => exact ⟨r + 1, by omega, by go_num, hqr2, hfs2⟩
                  case measure => simp [intOf]; omega
            · obtain rfl : r = q := by omega
              obtain ⟨j0, hj, hj0, hj1, hj2⟩ := info_parts Tryz.infoU8
              have hE3 : ∀ j, j < r → n j ≤ (E j).length ∧ Mk j (E j) (n j) := fun j hj => by
                obtain ⟨h1, h2⟩ := HE1.out j hj
                exact ⟨by omega, fun t ht => h2 t (by omega)⟩
              have HE3 := Lib.hid hE3
              clear hE3 HE1
              go_wp2_with fail
              go_loopw [11, 12, 13] (fun s11 s12 s13 wx => ∃ (q : Nat) (G' : Nat → Value) (E' : Nat → List UInt8) (gcs' : Array Value), q ≤ r ∧ s11 = .int .i64 (q : Nat) ∧ (∀ j, j < r → n j ≤ (E' j).length ∧ Mk j (E' j) (n j)) ∧ gcs'.size = r ∧
                  (∀ j, j < r → gcs'[j]? = some (G' j)) ∧ Blk wx rb gcs' 22 ∧ FS base w wx r lb lcs F D G' E') (fun s11 _ _ _ => r - (intOf s11).toNat)
              case atStart => exact ⟨0, G, E, gcs, Nat.zero_le _, rfl, HE3.out, hgs, HGG.out, hqr1, hfs1⟩
              case round =>
                obtain ⟨q, G', E', gcs', hq', rfl, hE', hgs', hgg', hqr', hfs'⟩ := hrel
                clear hqr1 hfs1
                by_cases hltq : q < r
                · have hFq := HG.out q hltq
                  have hnq := HS.out q hltq
                  obtain ⟨fa, fc, hFe, hf1, hf2⟩ := (hfs'.two.f q hltq).form
                  rw [hDL.out q] at hFe hf1
                  have hf3 : fc ≤ 2 ^ 63 - 1 := by unfold maxLen at hf2; omega
                  have HFE := Lib.hid hFe; have HE' := Lib.hid hE'; have HGG' := Lib.hid hgg'
                  have hsz' := hfs'.size
                  have hmb : ∀ j, j < r → ¬ Bl F G' j wr.heap.size := fun j hj hb => by have := hfs'.two.lt hj hb; omega
                  have hlm := hfs'.row.lt
                  have hrm := hqr'.lt
                  have hwm := hfs'.bel.size
                  have HMB := Lib.hid hmb
                  clear hf2 hFe hE' hgg' hmb
                  go_wp2_with (at_make; refine wpList_make_full _ rfl (.const (.int .i64 64)) (.const (.int .i64 64)) 22 rfl base 5 j0 _ 1 Tryz.underlying22 hj hj0 hj1 .i64 .i64 _ _ 64 rfl rfl rfl rfl (by rw [hj2]; omega) (by simp [maxLen]) hsz' ?_; intro w5 ho5 hg5; have hk5 := below_of_grown hg5 (fun r hr => nomatch hr) (Nat.le_refl _); have hfs5 := hfs'.below hk5; have hqr5 := hqr'.below hk5 hrm)
                  have hom : OwnB base w5 (.slice (some ⟨wr.heap.size, 0, none⟩) 64 64) (List.replicate 64 0) := by
                    unfold OwnB; rw [List.length_replicate, ← made_bytes]; exact ho5
                  obtain ⟨m, hm⟩ : ∃ x, wr.heap.size = x := ⟨_, rfl⟩
                  rw [hm] at hom hlm hrm HMB hsz' hwm ⊢
                  clear hm ho5 hg5 hk5 hfs' hqr'
                  go_loopw [13] (fun s13 wy => ∃ (i : Nat) (md : List UInt8), i ≤ 64 ∧ s13 = .int .i64 (i : Nat) ∧ md.length = 64 ∧ OwnB base wy (.slice (some ⟨m, 0, none⟩) 64 64) md ∧ Blk wy rb gcs' 22 ∧ FS base w wy r lb lcs F D G' E') (fun s13 _ => 64 - (intOf s13).toNat)
                  case atStart => exact ⟨0, _, Nat.zero_le _, rfl, by simp, hom, hqr5, hfs5⟩
                  case round =>
                    obtain ⟨i, md, hi, rfl, hml, hom', hqr6, hfs6⟩ := hrel
                    clear hom hqr5 hfs5
                    by_cases hlt64 : i < 64
                    · have t64 : decide ((i : Int) < (64 : Int)) = true := by simp; omega
                      go_wp2_with fail
                      refine (markB_any (q + r) i _ _ wr (by simp) rfl (by omega) (by omega)).mono ?_
                      rintro e w7 ⟨rfl, rfl⟩
                      obtain ⟨g, cap, hge, _, _, _, _, hgcell, hgf⟩ := hom'.some' (by rw [hml]; omega)
                      rw [hml] at hge
                      simp only [Value.slice.injEq, Option.some.injEq, Addr.mk.injEq, true_and, and_true] at hge
                      obtain ⟨rfl, rfl⟩ := hge
                      have hce := hgcell i (by rw [hml]; exact hlt64)
                      have hcf := hgf i
                      obtain ⟨y, hy⟩ : ∃ y, B (md[i]?.getD 0) = y := ⟨_, rfl⟩
                      rw [hy] at hce
                      have hom8 := hom'.set i (by rw [hml]; exact hlt64) (mb (q + r) i)
                      have hqr8 := hqr6.other (b' := m) (i := i) (by omega) (B (mb (q + r) i))
                      have hfs8 := hfs6.cell (r := m) (i := i) (x := B (mb (q + r) i)) HMB.out (by omega) hsz' hwm
                      clear hy hgcell hgf hom' hqr6 hfs6
                      go_wp2_with fail
                      go_roundw
                      case rel => exact ⟨i + 1, md.set i (mb (q + r) i), by omega, by go_num, by simpa using hml, hom8, hqr8, hfs8⟩
                      case measure => simp [intOf]; omega
                    · obtain rfl : i = 64 := by omega
                      have hcl : wr.cell? ⟨lb, q, none⟩ = some (.slice fa (n q) fc) := by rw [← HFE.out]; exact hfs6.row.at hFq
                      have hof := hfs6.two.f q hltq
                      rw [HFE.out] at hof
                      have hmany := hom'.byts
                      have hb63 : (D q).length + md.length ≤ 2 ^ 46 := by rw [hDL.out, hml]; omega
                      have hyb : ∀ b, (Value.slice fa (n q) fc).ownBlock = some b → Bl F G' q b := fun b hb => .inl (by rw [HFE.out]; exact hb)
                      have HYB := Lib.hid hyb
                      have hsz6 := hfs6.size
                      have h0m : 0 < md.length := by omega
                      have hqk : q < gcs'.size := by omega
                      obtain ⟨y, hy⟩ : ∃ y, gcs'[q]? = some y := ⟨_, Array.getElem?_eq_getElem hqk⟩
                      have HY := Lib.hid hy
                      clear hyb hy
                      go_wp2_with (at_builtin; refine wpList_append_two rfl (.tmp 148) (.tmp 149) rfl rfl rfl hof hmany h0m hb63 hsz6 ?_; intro v4 w4 ho4 hat4; obtain ⟨hfs4, hk4⟩ := hfs6.put hltq hof HYB.out (Nat.le_refl _) ho4 hat4; have hqr4 := hk4 _ _ hqr6; obtain ⟨ra, rn, rc, rfl⟩ := ownBlock_of_OwnB ho4; have hce := hqr4.at HY.out; have hcf := hqr4.free q)
                      have hqr9 := hqr4.set (i := q) (.slice ra rn rc)
                      have hfs9 := hfs4.cell (r := rb) (i := q) (x := .slice ra rn rc) (hfs4.notRow hqr4) hlr hszw hrw
                      go_roundw
                      case rel =>
                        refine ⟨q + 1, upd G' q (.slice ra rn rc), upd E' q (D q ++ md), gcs'.setIfInBounds q (.slice ra rn rc), by omega, by go_num, fun j hj => ?_, by simpa using hgs', fun j hj => ?_, hqr9, hfs9⟩
                        · by_cases hjq : j = q
                          · subst hjq; rw [upd_same, List.length_append, hDL.out]; exact ⟨by omega, (hDM.out j hj).append (by rw [hDL.out]; exact Nat.le_refl _)⟩
                          · rw [upd_other _ _ hjq]; exact HE'.out j hj
                        · by_cases hjq : j = q
                          · subst hjq; rw [Array.getElem?_setIfInBounds_self_of_lt hqk, upd_same]
                          · rw [Array.getElem?_setIfInBounds_ne (by omega), upd_other _ _ hjq]; exact HGG'.out j hj
                      case measure => simp [intOf]; omega
                · obtain rfl : q = r := by omega
                  have HE' := Lib.hid hE'; have HGG' := Lib.hid hgg'
                  clear hE' hgg'
                  go_wp2_with fail
                  go_loopw [14, 15] (fun s14 s15 wx => ∃ (z : Nat), z ≤ q ∧ s14 = .int .i64 (z : Nat) ∧ Blk wx rb gcs' 22 ∧ FS base w wx q lb lcs F D G' E') (fun s14 _ _ => q - (intOf s14).toNat)
                  case atStart => exact ⟨0, Nat.zero_le _, rfl, hqr', hfs'⟩
                  case round =>
                    obtain ⟨z, hz, rfl, hqr1, hfs1⟩ := hrel
                    clear hqr' hfs'
                    by_cases hltz : z < q
                    · have hFr := HG.out z hltz
                      have hnr := HS.out z hltz
                      obtain ⟨hEl, hEm⟩ := HE'.out z hltz
                      obtain ⟨fa, fc, hFe, hf1, hf2⟩ := (hfs1.two.f z hltz).form
                      obtain ⟨ga, gc, hGe, hg1, hg2⟩ := (hfs1.two.g z hltz).form
                      obtain ⟨en, hen⟩ : ∃ x, (E' z).length = x := ⟨_, rfl⟩
                      rw [hDL.out z] at hFe hf1
                      rw [hen] at hGe hg1 hEl
                      have hf3 : fc ≤ 2 ^ 63 - 1 := by unfold maxLen at hf2; omega
                      have hg3 : gc ≤ 2 ^ 63 - 1 := by unfold maxLen at hg2; omega
                      have hGr := HGG'.out z hltz
                      have HFE := Lib.hid hFe; have HGE := Lib.hid hGe; have HEL := Lib.hid hen; have HEM := Lib.hid hEm
                      clear hf2 hg2 hFe hGe hen hEm
                      go_wp2_with fail
                      go_loopw [15] (fun s15 wy => ∃ (i : Nat), i ≤ n z ∧ s15 = .int .i64 (i : Nat) ∧ Blk wy rb gcs' 22 ∧ FS base w wy q lb lcs F D G' E') (fun s15 _ => n z - (intOf s15).toNat)
                      case atStart => exact ⟨0, Nat.zero_le _, rfl, hqr1, hfs1⟩
                      case round =>
                        obtain ⟨i, hi, rfl, hqr2, hfs2⟩ := hrel
                        clear hqr1 hfs1
                        have hcl : wr.cell? ⟨lb, z, none⟩ = some (.slice fa (n z) fc) := by rw [← HFE.out]; exact hfs2.row.at hFr
                        have hcg : wr.cell? ⟨rb, z, none⟩ = some (.slice ga en gc) := by rw [← HGE.out]; exact hqr2.at hGr
                        by_cases hlti : i < n z
                        · have hlte : i < en := by omega
                          have hm : ∀ u, Calls Tryz.prog 36 #[.int .i64 (z : Nat), .int .i64 (i : Nat)] (wr.drewN u) fun e' w' => e' = .returned (.int .u8 ((mb z i).toNat : Int)) ∧ wr.drewN u = w' :=
                            fun u => markB_any z i _ _ _ rfl rfl (by omega) (by omega)
                          obtain ⟨g, cap, hge, _, _, _, _, hgcell, _⟩ := (hfs2.two.g z hltz).some' (by rw [HEL.out]; omega)
                          rw [HEL.out, HGE.out] at hge
                          simp only [Value.slice.injEq, true_and] at hge
                          obtain ⟨rfl, rfl⟩ := hge
                          have hc1 := hgcell i (by rw [HEL.out]; exact hlte)
                          rw [HEM.out i hlti] at hc1
                          obtain ⟨g2, cap2, hge2, _, _, _, _, hgcell2, _⟩ := (hfs2.two.f z hltz).some' (by rw [hDL.out]; omega)
                          rw [hDL.out, HFE.out] at hge2
                          simp only [Value.slice.injEq, true_and] at hge2
                          obtain ⟨rfl, rfl⟩ := hge2
                          have hc2 := hgcell2 i (by rw [hDL.out]; exact hlti)
                          rw [hDM.out z hltz i hlti] at hc2
                          obtain ⟨x, hx⟩ : ∃ x : Int, ((mb z i).toNat : Int) = x := ⟨_, rfl⟩
                          simp only [B, hx] at hc1 hc2
                          rw [hx] at hm
                          have HM := Lib.hid hm
                          clear hx hm hgcell hgcell2
                          go_wp2_with fail
                          go_quiet ((go_at_call 36; with_reducible exact quiet_eq (HM.out _)))
                          have hk := below_drewN' (B := wr.heap.size) (w := wr) nq
                          have hqr3 := hqr2.below hk hqr2.lt
                          have hfs3 := hfs2.below hk
                          clear hqr2 hfs2 hk
                          go_wp2_with fail
                          go_roundw
                          case rel => exact ⟨i + 1, by omega, by go_num, hqr3, hfs3⟩
                          case measure => simp [intOf]; omega
                        · obtain rfl : i = n z := by omega
                          go_wp2_with fail
                          go_roundw
                          case rel => exact ⟨z + 1, by omega, by go_num, hqr2, hfs2⟩
                          case measure => simp [intOf]; omega
                    · obtain rfl : z = q := by omega
                      go_wp2_with fail
                      go_ret
                      exact ⟨rfl, hfs1.bel, hfs1.oth⟩
end Go.Proofs.YtkdlimigepkepaaGreat
