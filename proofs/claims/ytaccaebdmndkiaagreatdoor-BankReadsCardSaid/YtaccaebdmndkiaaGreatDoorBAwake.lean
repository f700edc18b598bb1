/- The examples of the chapter, which the statements of layer 36 look at. -/
import Derived.Test.YtaccaebdmndkiaaGreatDoorBMatch
import Derived.Test.YtaccaebdmndkiaaGreatDoorBWr2
import Derived.Test.YtaccaebdmndkiaaGreatDoorBLaw
namespace Go.Proofs.YtaccaebdmndkiaaGreatDoor
open Go.RowKit
set_option linter.unusedVariables false

theorem it7 : Lib.itoa 7 = [55] := by simp [Lib.itoa, Lib.decDigits]
theorem it100 : Lib.itoa 100 = [49, 48, 48] := by simp [Lib.itoa, Lib.decDigits]
theorem it2 : Lib.itoa 2 = [50] := by simp [Lib.itoa, Lib.decDigits]
theorem it850 : Lib.itoa 850 = [56, 53, 48] := by simp [Lib.itoa, Lib.decDigits]
theorem it3 : Lib.itoa 3 = [51] := by simp [Lib.itoa, Lib.decDigits]
theorem it55 : Lib.itoa 55 = [53, 53] := by simp [Lib.itoa, Lib.decDigits]
theorem it1000 : Lib.itoa 1000 = [49, 48, 48, 48] := by simp [Lib.itoa, Lib.decDigits]
theorem it200 : Lib.itoa 200 = [50, 48, 48] := by simp [Lib.itoa, Lib.decDigits]
theorem it800 : Lib.itoa 800 = [56, 48, 48] := by simp [Lib.itoa, Lib.decDigits]
theorem it4 : Lib.itoa 4 = [52] := by simp [Lib.itoa, Lib.decDigits]
theorem it56 : Lib.itoa 56 = [53, 54] := by simp [Lib.itoa, Lib.decDigits]
theorem it50 : Lib.itoa 50 = [53, 48] := by simp [Lib.itoa, Lib.decDigits]
theorem it0 : Lib.itoa 0 = [48] := by simp [Lib.itoa, Lib.decDigits]
theorem it102 : Lib.itoa 102 = [49, 48, 50] := by simp [Lib.itoa, Lib.decDigits]
theorem it1 : Lib.itoa 1 = [49] := by simp [Lib.itoa, Lib.decDigits]
def exB1 : List UInt8 := [80, 65, 89, 32, 55, 32, 49, 48, 48, 32, 50, 32, 56, 53, 48, 10, 111, 114, 100, 101, 114, 32, 51, 32, 53, 53, 32, 49, 48, 48, 48, 32, 50, 48, 48, 32, 56, 48, 48, 10, 111, 114, 100, 101, 114, 32, 52, 32, 53, 54, 32, 53, 48, 32, 48, 32, 53, 48, 10]
def exB2 : List UInt8 := [66, 65, 67, 75, 32, 55, 32, 49, 48, 50, 32, 49, 10, 114, 101, 116, 117, 114, 110, 32, 52, 32, 50, 10]
def exB3 : List UInt8 := [80, 65, 89, 32, 49, 32, 48, 32, 48, 32, 48, 10]
def exT1 : List UInt8 := [80, 65, 89, 32, 55, 32, 49, 48, 48, 32, 50, 32, 56, 53, 48, 10, 111, 114, 100, 101, 114, 32, 51, 32, 53, 53, 32, 49, 48, 48, 48, 32, 50, 48, 48, 32, 56, 48, 48, 10, 111, 114, 100, 101, 114, 32, 52, 32, 53, 54, 32, 53, 48, 32, 48, 32, 53, 48, 10, 69, 78, 68, 32, 48, 48, 48, 48, 48, 99, 98, 56, 32, 48, 48, 48, 49, 55, 50, 49, 98, 10]
def exT2 : List UInt8 := [66, 65, 67, 75, 32, 55, 32, 49, 48, 50, 32, 49, 10, 114, 101, 116, 117, 114, 110, 32, 52, 32, 50, 10, 69, 78, 68, 32, 48, 48, 48, 48, 48, 53, 99, 54, 32, 48, 48, 48, 48, 52, 57, 50, 57, 10]
def exT3 : List UInt8 := [80, 65, 89, 32, 49, 32, 48, 32, 48, 32, 48, 10, 69, 78, 68, 32, 48, 48, 48, 48, 48, 50, 51, 53, 32, 48, 48, 48, 48, 48, 98, 100, 97, 10]
theorem exb1 : bodyF ⟨7, 100, exO⟩ = exB1 := by
  simp [bodyF, headF, odsB, odL, lineB, numsB, exO, tot, wPAY, wOrder, exB1, it7, it100, it2, it850, it3, it55, it1000, it200, it800, it4, it56, it50, it0]
theorem exb2 : bodyA ⟨7, 102, exR⟩ = exB2 := by
  simp [bodyA, headA, rtsB, rtL, lineB, numsB, exR, wBACK, wReturn, exB2, it7, it2, it4, it102, it1]
theorem exb3 : bodyF ⟨1, 0, []⟩ = exB3 := by
  simp [bodyF, headF, odsB, lineB, numsB, tot, wPAY, exB3, it0, it1]
theorem ext1 : writeS ⟨7, 100, exO⟩ = (exT1, 0) := by
  rw [writeS, if_pos (by kernel_rfl), textF, exb1]; kernel_rfl
theorem ext2 : writeAS ⟨7, 102, exR⟩ = (exT2, 0) := by
  rw [writeAS, if_pos (by kernel_rfl), textA, exb2]; kernel_rfl
theorem ext3 : writeS ⟨1, 0, []⟩ = (exT3, 0) := by
  rw [writeS, if_pos (by kernel_rfl), textF, exb3]; kernel_rfl
theorem exM : matchS ⟨7, 100, exO⟩ ⟨7, 102, exR⟩ = ([⟨4, 56, 50, 0, 50⟩], 0) := by
  rw [matchS, if_pos ⟨by kernel_rfl, by kernel_rfl⟩, if_neg (by simp)]; rfl
theorem exTot : totalS ⟨7, 100, exO⟩ = (850, 0) := by
  rw [totalS, if_pos (by kernel_rfl)]; rfl
theorem exs1 : (⟨exT1.toArray⟩ : ByteArray).size = 81 := by kernel_rfl
theorem exs2 : (⟨exT2.toArray⟩ : ByteArray).size = 46 := by kernel_rfl
theorem exh1 : (⟨exT1.toArray⟩ : ByteArray).extract 0 63 = ⟨#[80, 65, 89, 32, 55, 32, 49, 48, 48, 32, 50, 32, 56, 53, 48, 10, 111, 114, 100, 101, 114, 32, 51, 32, 53, 53, 32, 49, 48, 48, 48, 32, 50, 48, 48, 32, 56, 48, 48, 10, 111, 114, 100, 101, 114, 32, 52, 32, 53, 54, 32, 53, 48, 32, 48, 32, 53, 48, 10, 69, 78, 68, 32]⟩ := by kernel_rfl
theorem exh2 : (⟨exT2.toArray⟩ : ByteArray).extract 0 28 = ⟨#[66, 65, 67, 75, 32, 55, 32, 49, 48, 50, 32, 49, 10, 114, 101, 116, 117, 114, 110, 32, 52, 32, 50, 10, 69, 78, 68, 32]⟩ := by kernel_rfl
theorem exh3 : exT3.toArray = #[80, 65, 89, 32, 49, 32, 48, 32, 48, 32, 48, 10, 69, 78, 68, 32, 48, 48, 48, 48, 48, 50, 51, 53, 32, 48, 48, 48, 48, 48, 98, 100, 97, 10] := by kernel_rfl

set_option maxRecDepth 100000 in
set_option maxHeartbeats 2000000 in
theorem awake_any (w : World) (hT : Tabs w.heap.size w) : Calls Tryz.prog 5 #[] w fun e w' => e = .returned (.bool true) ∧ Below w.heap.size w w' := by
  go_enter Tryz.func5, Tryz.ntmps5
  go_wp2_with fail
  refine (two_any w).mono ?_
  rintro e w1 ⟨ob, rb, rfl, hO, hR, hb1⟩
  have q1 := (Blk.new w1 #[.int .i64 7, .int .i64 100, .slice (some ⟨ob, 0, none⟩) 2 2] 27).alloc (.cells #[.int .i64 7, .int .i64 102, .slice (some ⟨rb, 0, none⟩) 1 1] 30)
  have q2 := Blk.new (w1.alloc (.cells #[.int .i64 7, .int .i64 100, .slice (some ⟨ob, 0, none⟩) 2 2] 27)) #[.int .i64 7, .int .i64 102, .slice (some ⟨rb, 0, none⟩) 1 1] 30
  rw [World.size_alloc] at q2
  have h2 : Below w1.heap.size w1 ((w1.alloc (.cells #[.int .i64 7, .int .i64 100, .slice (some ⟨ob, 0, none⟩) 2 2] 27)).alloc (.cells #[.int .i64 7, .int .i64 102, .slice (some ⟨rb, 0, none⟩) 1 1] 30)) := ((Below.refl _ w1).alloc (Nat.le_refl _) _).alloc (by simp) _
  obtain ⟨w2, hw2⟩ : ∃ w2, (w1.alloc (.cells #[.int .i64 7, .int .i64 100, .slice (some ⟨ob, 0, none⟩) 2 2] 27)).alloc (.cells #[.int .i64 7, .int .i64 102, .slice (some ⟨rb, 0, none⟩) 1 1] 30) = w2 := ⟨_, rfl⟩
  rw [hw2] at q1 q2 h2
  have HW2 := Lib.hid hw2
  clear hw2
  have hT1 := hT.up hb1 hb1.size
  have hc := total_any w1.heap.size 7 100 exO _ w2 (hO.below h2 (Nat.le_refl _) (Nat.le_refl _)) h2.size
  rw [exTot] at hc
  dsimp only at hc
  go_wp2_with fail
  rw [HW2.out]
  refine hc.mono ?_
  rintro e w3 ⟨rfl, hb3⟩
  have h3 := h2.trans (hb3.mono h2.size)
  have q3 := q1.below hb3 q1.lt
  have r3 := q2.below hb3 q2.lt
  obtain ⟨c0, c1, c2⟩ := q3.three
  clear hc hb3 h2 q1 q2
  have hc := write_any w1.heap.size 7 100 exO _ w3 (hO.below h3 (Nat.le_refl _) (Nat.le_refl _)) h3.size (hT1.up h3 h3.size)
  rw [ext1] at hc
  dsimp only at hc
  go_wp2_with fail
  refine hc.mono ?_
  rintro e w4 ⟨rfl, hb4⟩
  have h4 := h3.trans (hb4.mono h3.size)
  have q4 := q3.below hb4 q3.lt
  have r4 := r3.below hb4 r3.lt
  clear hc hb4 h3 q3 r3 c0 c1 c2
  obtain ⟨c0, c1, c2⟩ := r4.three
  obtain ⟨s, hs⟩ : ∃ s : ByteArray, ⟨exT1.toArray⟩ = s := ⟨_, rfl⟩
  have hs1 := exs1
  have hs2 := exh1
  rw [hs] at hs1 hs2 ⊢
  clear hs
  have hc := writeA_any w1.heap.size 7 102 exR _ w4 (hR.below h4 (Nat.le_refl _) (Nat.le_refl _)) h4.size (hT1.up h4 h4.size)
  rw [ext2] at hc
  dsimp only at hc
  go_wp2_with fail
  refine hc.mono ?_
  rintro e w5 ⟨rfl, hb5⟩
  have h5 := h4.trans (hb5.mono h4.size)
  have q5 := q4.below hb5 q4.lt
  have r5 := r4.below hb5 r4.lt
  clear hc hb5 h4 q4 r4 c0 c1 c2
  obtain ⟨c0, c1, c2⟩ := q5.three
  obtain ⟨d0, d1, d2⟩ := r5.three
  obtain ⟨t, ht⟩ : ∃ s : ByteArray, ⟨exT2.toArray⟩ = s := ⟨_, rfl⟩
  have ht1 := exs2
  have ht2 := exh2
  rw [ht] at ht1 ht2 ⊢
  clear ht
  have hc := match_any w1.heap.size 7 100 exO _ 7 102 exR _ w5 (hO.below h5 (Nat.le_refl _) (Nat.le_refl _)) (hR.below h5 (Nat.le_refl _) (Nat.le_refl _)) h5.size
  rw [exM] at hc
  dsimp only at hc
  go_wp2_with fail
  refine hc.mono ?_
  rintro e w6 ⟨x, rfl, hX, hb6⟩
  have h6 := h5.trans (hb6.mono h5.size)
  have q6 := q5.below hb6 q5.lt
  clear hc hb6 h5 q5 r5 c0 c1 c2 d0 d1 d2
  obtain ⟨mb, mo, mcap, hx, _, hml, hmm, hmb, hmc⟩ := (Recs.cases hX).resolve_left (by rintro ⟨_, _, _, h, _⟩; cases h)
  rw [hx]
  have hc := write_any w6.heap.size 1 0 [] (.slice none 0 0) w6 (Recs.nil none 0 (by simp [maxLen]) (fun _ => rfl)) (Nat.le_refl _) (hT1.up h6 h6.size)
  rw [ext3] at hc
  dsimp only at hc
  go_wp2_with fail
  refine hc.mono ?_
  rintro e w7 ⟨rfl, hb7⟩
  have h7 := h6.trans (hb7.mono h6.size)
  have q7 := q6.below hb7 q6.lt
  obtain ⟨c0, c1, c2⟩ := q7.three
  obtain ⟨m0, m1, m2, m3, m4⟩ := ord_cells (cells_below hmc hb7 hmb) (k := 0) (by simp)
  obtain ⟨oa, ocap, ho, _, _, _, hoc⟩ := hO
  obtain ⟨ob', oo', hoa, hob, hoc1⟩ := hoc 1 (by decide)
  have ho1 : some (⟨ob, 0, none⟩ : Addr) = oa := by injection ho
  rw [← ho1] at hoa
  simp only [Option.some.injEq, Addr.mk.injEq, and_true] at hoa
  obtain ⟨rfl, rfl⟩ := hoa
  have k0 := (h7.cell (p := ⟨ob, 0 + (1 * 5 + 0), none⟩) hob).trans (hoc1 0 (by omega))
  have k1 := (h7.cell (p := ⟨ob, 0 + (1 * 5 + 1), none⟩) hob).trans (hoc1 1 (by omega))
  have k2 := (h7.cell (p := ⟨ob, 0 + (1 * 5 + 2), none⟩) hob).trans (hoc1 2 (by omega))
  have k3 := (h7.cell (p := ⟨ob, 0 + (1 * 5 + 3), none⟩) hob).trans (hoc1 3 (by omega))
  have k4 := (h7.cell (p := ⟨ob, 0 + (1 * 5 + 4), none⟩) hob).trans (hoc1 4 (by omega))
  rw [exh3]
  simp only [exO, Od.fld, List.getElem?_cons_zero, List.getElem?_cons_succ, Option.getD_some, Nat.zero_mul, Nat.one_mul, Nat.add_zero, Nat.zero_add, Nat.reduceAdd, List.length_cons, List.length_nil] at m0 m1 m2 m3 m4 k0 k1 k2 k3 k4 hml
  unfold maxLen at hmm
  clear hc hb7 h6 q6 hoc hmc hx hX ho ho1 hoc1 hR
  go_upto_region 10 with fail
  go_quiet (fail)
  go_wp2_with fail
  go_ret
  exact ⟨rfl, hb1.trans ((below_drewN2 h7 _).mono hb1.size)⟩
end Go.Proofs.YtaccaebdmndkiaaGreatDoor
