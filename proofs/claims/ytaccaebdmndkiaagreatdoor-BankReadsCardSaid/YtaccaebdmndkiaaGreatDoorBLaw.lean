/- The statements' own functions of layer 36: plain, two, sameOrders. No conditions beyond the readings of the arguments. -/
import Derived.Test.YtaccaebdmndkiaaGreatDoorBOwn
import Derived.Test.YtaccaebdmndkiaaGreatDoorRF
import Derived.Deep.CutRange
namespace Go.Proofs.YtaccaebdmndkiaaGreatDoor
open Go.RowKit
set_option linter.unusedVariables false

theorem plainF_any (n d : Int) (va : Option Addr) (vl vcap : Nat) (w : World) : Calls Tryz.prog 10 #[.agg #[.int .i64 n, .int .i64 d, .slice va vl vcap]] w fun e w' => e = .returned (.agg #[.int .i64 n, .int .i64 d, .slice va vl vcap]) ∧ Below w.heap.size w w' := by
  have q := Blk.new (w.alloc (.cells #[.int .i64 n, .int .i64 d, .slice va vl vcap] 27)) #[.int .i64 n, .int .i64 d, .slice va vl vcap] 36
  rw [World.size_alloc] at q
  have hb : Below w.heap.size w ((w.alloc (.cells #[.int .i64 n, .int .i64 d, .slice va vl vcap] 27)).alloc (.cells #[.int .i64 n, .int .i64 d, .slice va vl vcap] 36)) := ((Below.refl _ w).alloc (Nat.le_refl _) _).alloc (by simp) _
  obtain ⟨c0, c1, c2⟩ := q.three
  go_enter Tryz.func10, Tryz.ntmps10
  go_wp2_with fail
  refine bodyPost_ret (v := .agg #[.int .i64 n, .int .i64 d, .slice va vl vcap]) (by simp [results, Tryz.results10, go_sem, c0, c1, c2]) rfl ⟨rfl, hb⟩

def exO : List Od := [⟨3, 55, 1000, 200, 800⟩, ⟨4, 56, 50, 0, 50⟩]
def exR : List Rt := [⟨4, 2⟩]
theorem two_any (w : World) : Calls Tryz.prog 8 #[] w fun e w' => ∃ ob rb, e = .returned (.tuple #[.agg #[.int .i64 7, .int .i64 100, .slice (some ⟨ob, 0, none⟩) 2 2], .agg #[.int .i64 7, .int .i64 102, .slice (some ⟨rb, 0, none⟩) 1 1]]) ∧
    Ords w'.heap.size w' (.slice (some ⟨ob, 0, none⟩) 2 2) exO ∧ Rets w'.heap.size w' (.slice (some ⟨rb, 0, none⟩) 1 1) exR ∧ Below w.heap.size w w' := by
  obtain ⟨b, hb⟩ : ∃ b, w.heap.size = b := ⟨_, rfl⟩
  have q1 := Blk.new w #[.int .i64 7, .int .i64 100, .slice (some ⟨b + 1 + 1, 0, none⟩) 2 2] 27
  have h1 : Below b w (w.alloc (.cells #[.int .i64 7, .int .i64 100, .slice (some ⟨b + 1 + 1, 0, none⟩) 2 2] 27)) := (Below.refl _ w).alloc (by omega) _
  have s1 : (w.alloc (.cells #[.int .i64 7, .int .i64 100, .slice (some ⟨b + 1 + 1, 0, none⟩) 2 2] 27)).heap.size = b + 1 := by rw [World.size_alloc, hb]
  obtain ⟨w1, hw1⟩ : ∃ w1, w.alloc (.cells #[.int .i64 7, .int .i64 100, .slice (some ⟨b + 1 + 1, 0, none⟩) 2 2] 27) = w1 := ⟨_, rfl⟩
  rw [hw1] at q1 h1 s1
  have q2 := Blk.new w1 #[.int .i64 7, .int .i64 102, .slice (some ⟨b + 1 + 1 + 1 + 1, 0, none⟩) 1 1] 30
  have q1 := q1.alloc (.cells #[.int .i64 7, .int .i64 102, .slice (some ⟨b + 1 + 1 + 1 + 1, 0, none⟩) 1 1] 30)
  have h2 := h1.alloc (o := .cells #[.int .i64 7, .int .i64 102, .slice (some ⟨b + 1 + 1 + 1 + 1, 0, none⟩) 1 1] 30) (by omega)
  have s2 : (w1.alloc (.cells #[.int .i64 7, .int .i64 102, .slice (some ⟨b + 1 + 1 + 1 + 1, 0, none⟩) 1 1] 30)).heap.size = b + 1 + 1 := by rw [World.size_alloc, s1]
  rw [s1] at q2
  obtain ⟨w2, hw2⟩ : ∃ w2, w1.alloc (.cells #[.int .i64 7, .int .i64 102, .slice (some ⟨b + 1 + 1 + 1 + 1, 0, none⟩) 1 1] 30) = w2 := ⟨_, rfl⟩
  rw [hw2] at q1 q2 h2 s2
  have q3 := Blk.new w2 #[.int .i64 3, .int .i64 55, .int .i64 1000, .int .i64 200, .int .i64 800, .int .i64 4, .int .i64 56, .int .i64 50, .int .i64 0, .int .i64 50] 47
  have q1 := q1.alloc (.cells #[.int .i64 3, .int .i64 55, .int .i64 1000, .int .i64 200, .int .i64 800, .int .i64 4, .int .i64 56, .int .i64 50, .int .i64 0, .int .i64 50] 47)
  have q2 := q2.alloc (.cells #[.int .i64 3, .int .i64 55, .int .i64 1000, .int .i64 200, .int .i64 800, .int .i64 4, .int .i64 56, .int .i64 50, .int .i64 0, .int .i64 50] 47)
  have h3 := h2.alloc (o := .cells #[.int .i64 3, .int .i64 55, .int .i64 1000, .int .i64 200, .int .i64 800, .int .i64 4, .int .i64 56, .int .i64 50, .int .i64 0, .int .i64 50] 47) (by omega)
  have s3 : (w2.alloc (.cells #[.int .i64 3, .int .i64 55, .int .i64 1000, .int .i64 200, .int .i64 800, .int .i64 4, .int .i64 56, .int .i64 50, .int .i64 0, .int .i64 50] 47)).heap.size = b + 1 + 1 + 1 := by rw [World.size_alloc, s2]
  rw [s2] at q3
  obtain ⟨w3, hw3⟩ : ∃ w3, w2.alloc (.cells #[.int .i64 3, .int .i64 55, .int .i64 1000, .int .i64 200, .int .i64 800, .int .i64 4, .int .i64 56, .int .i64 50, .int .i64 0, .int .i64 50] 47) = w3 := ⟨_, rfl⟩
  rw [hw3] at q1 q2 q3 h3 s3
  have q1 := q1.alloc (.cells #[.int .i64 7, .int .i64 100, .slice (some ⟨b + 1 + 1, 0, none⟩) 2 2] 27)
  have q2 := q2.alloc (.cells #[.int .i64 7, .int .i64 100, .slice (some ⟨b + 1 + 1, 0, none⟩) 2 2] 27)
  have q3 := q3.alloc (.cells #[.int .i64 7, .int .i64 100, .slice (some ⟨b + 1 + 1, 0, none⟩) 2 2] 27)
  have h4 := h3.alloc (o := .cells #[.int .i64 7, .int .i64 100, .slice (some ⟨b + 1 + 1, 0, none⟩) 2 2] 27) (by omega)
  have s4 : (w3.alloc (.cells #[.int .i64 7, .int .i64 100, .slice (some ⟨b + 1 + 1, 0, none⟩) 2 2] 27)).heap.size = b + 1 + 1 + 1 + 1 := by rw [World.size_alloc, s3]
  obtain ⟨w4, hw4⟩ : ∃ w4, w3.alloc (.cells #[.int .i64 7, .int .i64 100, .slice (some ⟨b + 1 + 1, 0, none⟩) 2 2] 27) = w4 := ⟨_, rfl⟩
  rw [hw4] at q1 q2 q3 h4 s4
  have q5 := Blk.new w4 #[.int .i64 4, .int .i64 2] 49
  have q1 := q1.alloc (.cells #[.int .i64 4, .int .i64 2] 49)
  have q2 := q2.alloc (.cells #[.int .i64 4, .int .i64 2] 49)
  have q3 := q3.alloc (.cells #[.int .i64 4, .int .i64 2] 49)
  have h5 := h4.alloc (o := .cells #[.int .i64 4, .int .i64 2] 49) (by omega)
  rw [s4] at q5
  obtain ⟨w5, hw5⟩ : ∃ w5, w4.alloc (.cells #[.int .i64 4, .int .i64 2] 49) = w5 := ⟨_, rfl⟩
  rw [hw5] at q1 q2 q3 q5 h5
  obtain ⟨c0, c1, c2⟩ := q1.three
  obtain ⟨d0, d1, d2⟩ := q2.three
  have HB := Lib.hid hb
  rw [hb] at q1
  have hfin : ∃ ob rb, Ending.returned (.tuple #[.agg #[.int .i64 7, .int .i64 100, .slice (some ⟨b + 1 + 1, 0, none⟩) 2 2], .agg #[.int .i64 7, .int .i64 102, .slice (some ⟨b + 1 + 1 + 1 + 1, 0, none⟩) 1 1]]) = .returned (.tuple #[.agg #[.int .i64 7, .int .i64 100, .slice (some ⟨ob, 0, none⟩) 2 2], .agg #[.int .i64 7, .int .i64 102, .slice (some ⟨rb, 0, none⟩) 1 1]]) ∧
      Ords w5.heap.size w5 (.slice (some ⟨ob, 0, none⟩) 2 2) exO ∧ Rets w5.heap.size w5 (.slice (some ⟨rb, 0, none⟩) 1 1) exR ∧ Below b w w5 := by
    refine ⟨_, _, rfl, ?_, ?_, h5⟩
    · refine Recs.mk_cells (n := 2) (Nat.le_refl _) (by simp [maxLen]) q3.lt fun i hi j hj => q3.at ?_
      rw [Nat.zero_add]
      match i, hi, j, hj with
      | 0, _, 0, _ => rfl
      | 0, _, 1, _ => rfl
      | 0, _, 2, _ => rfl
      | 0, _, 3, _ => rfl
      | 0, _, 4, _ => rfl
      | 1, _, 0, _ => rfl
      | 1, _, 1, _ => rfl
      | 1, _, 2, _ => rfl
      | 1, _, 3, _ => rfl
      | 1, _, 4, _ => rfl
    · refine Recs.mk_cells (n := 1) (Nat.le_refl _) (by simp [maxLen]) q5.lt fun i hi j hj => q5.at ?_
      rw [Nat.zero_add]
      match i, hi, j, hj with
      | 0, _, 0, _ => rfl
      | 0, _, 1, _ => rfl
  have hchain : ((((w.alloc (.cells #[.int .i64 7, .int .i64 100, .slice (some ⟨b + 1 + 1, 0, none⟩) 2 2] 27)).alloc (.cells #[.int .i64 7, .int .i64 102, .slice (some ⟨b + 1 + 1 + 1 + 1, 0, none⟩) 1 1] 30)).alloc
      (.cells #[.int .i64 3, .int .i64 55, .int .i64 1000, .int .i64 200, .int .i64 800, .int .i64 4, .int .i64 56, .int .i64 50, .int .i64 0, .int .i64 50] 47)).alloc (.cells #[.int .i64 7, .int .i64 100, .slice (some ⟨b + 1 + 1, 0, none⟩) 2 2] 27)).alloc (.cells #[.int .i64 4, .int .i64 2] 49) = w5 := by
    rw [hw1, hw2, hw3, hw4, hw5]
  have HCH := Lib.hid hchain
  have HF := Lib.hid hfin
  clear hchain hfin hw1 hw2 hw3 hw4 hw5 hb h1 h2 h3 h4 h5 s1 s2 s3 s4 q1 q2 q3 q5
  go_enter Tryz.func8, Tryz.ntmps8
  go_wp2_with fail
  rw [HB.out, HCH.out]
  rw [HB.out] at c0 c1 c2
  refine bodyPost_ret (v := .tuple #[.agg #[.int .i64 7, .int .i64 100, .slice (some ⟨b + 1 + 1, 0, none⟩) 2 2], .agg #[.int .i64 7, .int .i64 102, .slice (some ⟨b + 1 + 1 + 1 + 1, 0, none⟩) 1 1]]) (by simp [results, Tryz.results8, go_sem, c0, c1, c2, d0, d1, d2]) rfl HF.out

def odEq (a b : Od) : Bool := decide (a.num = b.num) && decide (a.acc = b.acc) && decide (a.gross = b.gross) && decide (a.tax = b.tax) && decide (a.net = b.net)
/-- Two lists that read as the same orders. -/
theorem sameO_any (K : Nat) (u v : Value) (l : List Od) (w : World) (hu : Ords K w u l) (hv : Ords K w v l) :
    Calls Tryz.prog 33 #[u, v] w fun e w' => e = .returned (.bool true) ∧ ∃ n, w' = w.drewN n := by
  obtain ⟨ua, ucap, rfl, hul, hum, huz, huc⟩ := hu
  obtain ⟨va, vcap, rfl, hvl, hvm, hvz, hvc⟩ := hv
  unfold maxLen at hum hvm
  go_enter Tryz.func33, Tryz.ntmps33
  go_wp2_with fail
  go_loopw [5] (fun i wr => ∃ k m : Nat, k ≤ l.length ∧ i = .int .i64 k ∧ wr = w.drewN m) (fun i _ => l.length - (intOf i).toNat)
  case atStart => exact ⟨0, 0, Nat.zero_le _, rfl, rfl⟩
  case round =>
    obtain ⟨k, m, hk, rfl, rfl⟩ := hrel
    by_cases hlt : k < l.length
    · obtain ⟨b, o, rfl, hb, hc⟩ := huc k hlt
      obtain ⟨b', o', rfl, hb', hc'⟩ := hvc k hlt
      obtain ⟨od, hod⟩ : ∃ od, l[k]?.getD Od.z = od := ⟨_, rfl⟩
      rw [hod] at hc hc'
      obtain ⟨on, oa, og, ot, onet⟩ := od
      have k0 := hc 0 (by omega)
      have k1 := hc 1 (by omega)
      have k2 := hc 2 (by omega)
      have k3 := hc 3 (by omega)
      have k4 := hc 4 (by omega)
      have j0 := hc' 0 (by omega)
      have j1 := hc' 1 (by omega)
      have j2 := hc' 2 (by omega)
      have j3 := hc' 3 (by omega)
      have j4 := hc' 4 (by omega)
      simp only [Od.fld, Nat.add_zero, ← Nat.add_assoc] at k0 k1 k2 k3 k4 j0 j1 j2 j3 j4
      clear hc hc' huc hvc hod
      go_upto_region 6 with fail
      go_quiet (fail)
      go_wp2_with fail
      exact ⟨⟨k + 1, _, by omega, by go_num, rfl⟩, by simp [intOf]; omega⟩
    · obtain rfl : k = l.length := by omega
      go_wp2_with fail
      go_ret
      exact ⟨rfl, m, rfl⟩
end Go.Proofs.YtaccaebdmndkiaaGreatDoor
