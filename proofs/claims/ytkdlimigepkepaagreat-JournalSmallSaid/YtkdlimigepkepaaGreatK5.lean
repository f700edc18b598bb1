/- The laws' kit: ApartBytes. No conditions beyond sizes. -/
import Derived.Test.YtkdlimigepkepaaGreatK4
namespace Go.Proofs.YtkdlimigepkepaaGreat
open Go.RowKit
set_option linter.unusedVariables false

set_option maxRecDepth 100000 in
set_option maxHeartbeats 4000000 in
theorem apart_any (base : Nat) (w : World) (N acap ab : Nat) (acs : Array Value) (F : Nat → Value) (D0 : Nat → List UInt8) (h : FS base w w N ab acs F D0 F D0) (hN : N ≤ acap) (hac : acap ≤ 2 ^ 63 - 1) (h0 : 0 < N)
    (hget : ∀ k, k < N → acs[k]? = some (F k)) (hsmall : ∀ k, k < N → (D0 k).length ≤ 2 ^ 22) (hN20 : N ≤ 2 ^ 20) :
    Calls Tryz.prog 29 #[.slice (some ⟨ab, 0, none⟩) N acap] w fun e w' => e = .returned (.bool true) ∧ Below base w w' := by
  have HG := Lib.hid hget; have HS := Lib.hid hsmall
  clear hget hsmall
  obtain ⟨i0, hi0, hz0, hz1, hz2⟩ := info_parts Tryz.infoBytes
  have q0 := Blk.new w (bagC (.slice none 0 0)) 105
  have hk0 : Below w.heap.size w (w.alloc (.cells (bagC (.slice none 0 0)) 105)) := (Below.refl _ w).alloc (Nat.le_refl _) _
  have h1 := h.below hk0
  have hbb0 := h.size
  have hrow0 := h.row
  have HF := Lib.hid h
  clear hk0 h
  go_enter Tryz.func29, Tryz.ntmps29
  go_wp2_with fail
  obtain ⟨bb, hbb⟩ : ∃ x, w.heap.size = x := ⟨_, rfl⟩
  obtain ⟨W1, hW1⟩ : ∃ X, w.alloc (.cells (bagC (.slice none 0 0)) 105) = X := ⟨_, rfl⟩
  have hW1' : w.alloc (.cells #[.slice none 0 0, .slice none 0 0, .slice none 0 0, .slice none 0 0, .slice none 0 0, .slice none 0 0, .slice none 0 0, .slice none 0 0, .slice none 0 0, .slice none 0 0, .slice none 0 0, .slice none 0 0, .slice none 0 0, .slice none 0 0, .slice none 0 0, .slice none 0 0, .slice none 0 0, .slice none 0 0, .slice none 0 0, .slice none 0 0, .slice none 0 0, .slice none 0 0, .slice none 0 0] 105) = W1 := hW1
  have hk1 : Below bb w W1 := by rw [← hW1, ← hbb]; exact (Below.refl _ w).alloc (Nat.le_refl _) _
  have hs1 : bb + 1 ≤ W1.heap.size := by rw [← hW1, ← hbb]; simp
  rw [hW1'] 
  rw [hW1] at q0 h1
  rw [hbb] at q0 hbb0 ⊢
  have hab : ab < bb := by rw [← hbb]; exact hrow0.lt
  have hbbw : w.heap.size ≤ bb := by omega
  have HBB := Lib.hid hbb
  clear hW1 hW1' h1 hbb
  go_loopw [4] (fun s4 wr => ∃ (k : Nat) (rv : Value), k ≤ N ∧ s4 = .int .i64 (k : Nat) ∧ Blk wr bb (bagC rv) 105 ∧ wr.ownsRow (bb + 1) 22 1 rv k (heads F k) ∧ Below bb w wr ∧ bb + 1 ≤ wr.heap.size) (fun s4 _ => N - (intOf s4).toNat)
  case atStart => exact ⟨0, .slice none 0 0, Nat.zero_le _, rfl, q0, World.ownsRow_nil W1 (bb + 1) 22 1, hk1, hs1⟩
  case round =>
    obtain ⟨k, rv, hk, rfl, hq, hro, hbl, hsz⟩ := hrel
    clear q0 hk1 hs1
    by_cases hlt : k < N
    · have hFk := HG.out k hlt
      have hnk := HS.out k hlt
      obtain ⟨fa, fc, hFe, hf1, hf2⟩ := (HF.out.two.f k hlt).form
      have hf3 : fc ≤ 2 ^ 63 - 1 := by unfold maxLen at hf2; omega
      have hcl : wr.cell? ⟨ab, k, none⟩ = some (.slice fa (D0 k).length fc) := by rw [← hFe]; exact (hbl.cell (p := ⟨ab, k, none⟩) hab).trans (hrow0.at hFk)
      have f3 := hq.free 3
      have hnb : ∀ r, rv.ownBlock = some r → bb + 1 ≤ r := fun r hr => (ownsRow_cells hro hr).1
      have hrA := World.ownsRow.alloc hro (.cells #[.slice fa (D0 k).length fc] 22)
      have hqA := hq.alloc (.cells #[.slice fa (D0 k).length fc] 22)
      have hblA : Below bb w (wr.alloc (.cells #[.slice fa (D0 k).length fc] 22)) := hbl.alloc (by omega) _
      have hszA : bb + 1 ≤ (wr.alloc (.cells #[.slice fa (D0 k).length fc] 22)).heap.size := by simp; omega
      have hrf : ∃ a n c, rv = .slice a n c := by
        rcases hro.2 with ⟨h1, _⟩ | ⟨g, c, cur, h1, _⟩
        · exact ⟨_, _, _, h1⟩
        · exact ⟨_, _, _, h1⟩
      obtain ⟨va, vn, vc, rfl⟩ := hrf
      have c3 : wr.cell? ⟨bb, 3, none⟩ = some (.slice va vn vc) := hq.at rfl
      have HFE := Lib.hid hFe; have HNB := Lib.hid hnb
      clear hf2 hFe hnb hq hro
      go_wp2_with (first
        | (at_builtin; refine wpList_append_own_at _ rfl (.tmp 8) (.tmp 10) 45 rfl (bb + 1) 22 i0 (.slice none 0 0) 1 24 Tryz.underlying45 hi0 hz0 hz1 hz2 rfl (by decide) (.slice va vn vc) k (heads F k) rfl hrA ⟨wr.heap.size, 0, none⟩ 1 1 [.slice fa (D0 k).length fc] rfl rfl (cell_one_new wr _ 22) (by intro u hu; simp at hu; subst hu; rfl) (by simp only [maxLen]; omega) (by omega) hszA ?_; intro v2 w2 ho2 hg2 hn2 hat2; obtain ⟨ra, rn, rc, rfl⟩ : ∃ a n c, v2 = .slice a n c := (by rcases ho2.2 with ⟨h1, _⟩ | ⟨g, c, cur, h1, _⟩; exact ⟨_, _, _, h1⟩; exact ⟨_, _, _, h1⟩); have hq2 := hqA.kept hg2 (fun e => by have := HNB.out _ e.symm; omega); have c32 : w2.cell? ⟨bb, 3, none⟩ = some (.slice va vn vc) := hq2.at rfl; have f32 := hq2.free 3; have hb2 := hblA.trans (below_of_grown hg2 (fun r hr => by have := HNB.out r hr; omega) (by omega)); have hs2 := hg2.size; clear c3 f3)
        | go_in)
      have hro3 : (w2.setCell ⟨bb, 3, none⟩ (.slice ra rn rc)).ownsRow (bb + 1) 22 1 (.slice ra rn rc) (k + 1) (heads F (k + 1)) := by
        rw [heads_succ, HFE.out]
        exact World.ownsRow.kept ho2 (grownBy_setCell w2 bb 3 _) (.inr fun e => by have := (ownsRow_cells ho2 e).1; omega)
      have hq3 : Blk (w2.setCell ⟨bb, 3, none⟩ (.slice ra rn rc)) bb (bagC (.slice ra rn rc)) 105 := hq2.set (i := 3) _
      refine ⟨⟨k + 1, .slice ra rn rc, by omega, by go_num, hq3, hro3, hb2.setCell (Nat.le_refl _) _, ?_⟩, ?_⟩
      · simp only [World.size_alloc] at hs2; simp [World.setCell]; omega
      · simp [intOf]; omega
    · obtain rfl : k = N := by omega
      have hrf : ∃ lb lcap, rv = .slice (some ⟨lb, 0, none⟩) k lcap := by
        rcases hro.2 with ⟨h1, h2⟩ | ⟨g, c, cur, h1, _⟩
        · omega
        · exact ⟨_, _, h1⟩
      obtain ⟨lb, lcap, rfl⟩ := hrf
      obtain ⟨lcs, hlr, hlg, hl1, hl2⟩ := head_cells hro
      have hfs : FS base wr wr k lb lcs F D0 F D0 := ⟨HF.out.two.below hbl hbbw, hlr, Below.refl _ _, by omega, fun _ _ _ _ h => h⟩
      have hl3 : lcap ≤ 2 ^ 63 - 1 := by unfold maxLen at hl2; omega
      clear hl2 hro hlr
      go_wp2_with fail
      refine (bag_any base wr bb k lcap lb lcs F D0 hq hfs hl1 hl3 hlg HS.out hN20).mono ?_
      rintro e w5 ⟨rfl, hb5⟩
      have hb6 := (hbl.mono hbb0).trans hb5
      go_wp2_with fail
      go_ret
      exact ⟨rfl, hb6⟩
end Go.Proofs.YtkdlimigepkepaaGreat
