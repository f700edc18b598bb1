/- The statements' function change of layer 36. No conditions beyond those stated. -/
import Derived.Test.YtaccaebdmndkiaaDoorBAcc
namespace Go.Proofs.YtaccaebdmndkiaaDoor
open Go.RowKit
set_option linter.unusedVariables false

theorem str_ext {a b : ByteArray} (h : a.data.toList = b.data.toList) : a = b := by
  cases a; cases b; simp only [ByteArray.mk.injEq]; exact Array.ext' h
theorem app_data (a b : ByteArray) : (a ++ b).data.toList = a.data.toList ++ b.data.toList := by rw [ByteArray.data_append]; simp
theorem chg0 {s : ByteArray} {l : List UInt8} (h : s.data.toList = l) (i : Nat) (c : UInt8) : (s.extract 0 i ++ ⟨#[c]⟩) ++ s.extract (i + 1) s.size = ⟨(chg l i 0 c).toArray⟩ := by
  apply str_ext
  rw [app_data, app_data, Lib.extract_from_zero, Lib.extract_to_end, h, chg, if_pos rfl]; simp
theorem chg1 {s : ByteArray} {l : List UInt8} (h : s.data.toList = l) (i : Nat) (c : UInt8) : (s.extract 0 i ++ ⟨#[c]⟩) ++ s.extract i s.size = ⟨(chg l i 1 c).toArray⟩ := by
  apply str_ext
  rw [app_data, app_data, Lib.extract_from_zero, Lib.extract_to_end, h, chg, if_neg (by omega), if_pos rfl]; simp
theorem chg2 {s : ByteArray} {l : List UInt8} (h : s.data.toList = l) (i : Nat) (c : UInt8) : s.extract 0 i ++ s.extract (i + 1) s.size = ⟨(chg l i 2 c).toArray⟩ := by
  apply str_ext
  rw [app_data, Lib.extract_from_zero, Lib.extract_to_end, h, chg, if_neg (by omega), if_neg (by omega)]

set_option maxRecDepth 100000 in
set_option maxHeartbeats 2000000 in
theorem change0_any (s : ByteArray) (i : Nat) (c : UInt8) (w : World) (hs : s.size ≤ 2 ^ 40) (hi : i < s.size) :
    Calls Tryd.prog 20 #[.string s, .int .i64 i, .int .i64 0, .int .u8 c.toNat] w fun e w' => e = .returned (.string ⟨(chg s.data.toList i 0 c).toArray⟩) ∧ Below w.heap.size w w' := by
  have hc := chg0 (s := s) rfl i c
  have HC := Lib.hid hc
  have hc256 := u8_lt c
  have hn1 : ¬ s.size < i := by omega
  have hn2 : ¬ s.size < i + 1 := by omega
  have hn3 : ¬ (s.size : Int) < (i : Int) + 1 := by omega
  have hw1 : IntKind.i64.wrap ((i : Int) + 1) = (i : Int) + 1 := IntWalk.i64_in _ (by omega)
  have hw2 : ((i : Int) + 1).toNat = i + 1 := by omega
  have hw3 : (0 : Int) ≤ (i : Int) + 1 := by omega
  have hm1 : ¬ 9223372036854775807 < min i s.size + 1 := by omega
  have hm2 : ¬ 9223372036854775807 < min i s.size + 1 + (s.size - (i + 1)) := by omega
  have hm3 : ¬ 9223372036854775807 < i + 1 := by omega
  have hm4 : ¬ 9223372036854775807 < i + 1 + (s.size - (i + 1)) := by omega
  have hcv : (convert 53 9 (.slice (some ⟨w.heap.size, 0, none⟩) 1 1)).run Tryd.prog ((w.alloc (.cells #[.int .u8 c.toNat] 5)).drew) = .ok (.string ⟨#[c]⟩) ((w.alloc (.cells #[.int .u8 c.toNat] 5)).drew) := by
    have hb : Byts (w.heap.size + 1) ((w.alloc (.cells #[.int .u8 c.toNat] 5)).drew) (.slice (some ⟨w.heap.size, 0, none⟩) 1 1) [c] := by
      refine Byts.mk_cells (l := [c]) (by simp) (by simp [maxLen]) (by omega) fun j hj => ?_
      obtain rfl : j = 0 := by simpa using hj
      exact (Blk.new w #[.int .u8 c.toNat] 5).at rfl
    exact conv_str hb
  have hbf : Below w.heap.size w ((w.alloc (.cells #[.int .u8 c.toNat] 5)).drew) := ((Below.refl _ w).alloc (Nat.le_refl _) (.cells #[.int .u8 c.toNat] 5)).trans ⟨rfl, rfl, rfl, Nat.le_refl _, fun _ _ => rfl⟩
  clear hc
  go_enter Tryd.func20, Tryd.ntmps20
  go_wp2_with fail
  refine wp_onlyN ?_
  refine region_plain (fun _ => True) [] (by kernel_rfl) ?_
  have q0 : (fun _ : World => True) w.drew := trivial
  refine wpAnyD_take (i := 0) (v := .string s) rfl (by kernel_rfl) (by kernel_rfl) (by kernel_rfl) (by kernel_rfl) (by kernel_rfl) (fun _ _ _ h => h) (.inl ⟨by kernel_rfl, fun W' hS => by go_simp⟩) q0 ?_
  refine wpAnyD_take (i := 1) (v := .int .i64 i) rfl (by kernel_rfl) (by kernel_rfl) (by kernel_rfl) (by kernel_rfl) (by kernel_rfl) (fun _ _ _ h => h) (.inl ⟨by kernel_rfl, fun W' hS => by go_simp⟩) q0 ?_
  refine wpAnyD_take (i := 2) (v := .string (s.extract 0 i)) rfl (by kernel_rfl) (by kernel_rfl) (by kernel_rfl) (by kernel_rfl) (by kernel_rfl) (fun _ _ _ h => h) (.inl ⟨by kernel_rfl, fun W' hS => by go_simp⟩) q0 ?_
  refine wpAnyD_take (i := 3) (v := .int .u8 c.toNat) rfl (by kernel_rfl) (by kernel_rfl) (by kernel_rfl) (by kernel_rfl) (by kernel_rfl) (fun _ _ _ h => h) (.inl ⟨by kernel_rfl, fun W' hS => by go_simp⟩) q0 ?_
  refine wpAnyD_take (i := 7) (v := .string s) rfl (by kernel_rfl) (by kernel_rfl) (by kernel_rfl) (by kernel_rfl) (by kernel_rfl) (fun _ _ _ h => h) (.inl ⟨by kernel_rfl, fun W' hS => by go_simp⟩) q0 ?_
  refine wpAnyD_take (i := 8) (v := .int .i64 i) rfl (by kernel_rfl) (by kernel_rfl) (by kernel_rfl) (by kernel_rfl) (by kernel_rfl) (fun _ _ _ h => h) (.inl ⟨by kernel_rfl, fun W' hS => by go_simp⟩) q0 ?_
  refine wpAnyD_take (i := 9) (v := .int .i64 ((i : Int) + 1)) rfl (by kernel_rfl) (by kernel_rfl) (by kernel_rfl) (by kernel_rfl) (by kernel_rfl) (fun _ _ _ h => h) (.inl ⟨by kernel_rfl, fun W' hS => by go_simp⟩) q0 ?_
  refine wpAnyD_take (i := 10) (v := .string (s.extract (i + 1) s.size)) rfl (by kernel_rfl) (by kernel_rfl) (by kernel_rfl) (by kernel_rfl) (by kernel_rfl) (fun _ _ _ h => h) (.inl ⟨by kernel_rfl, fun W' hS => by go_simp⟩) q0 ?_
  refine wpAnyD_one (i := 4) (by kernel_rfl) rfl (by kernel_rfl) ?_
  go_simp
  refine wpAnyD_one (i := 5) (by kernel_rfl) rfl (by kernel_rfl) ?_
  go_simp
  refine wpAnyD_one (i := 6) (by kernel_rfl) rfl (by kernel_rfl) ?_
  go_simp
  refine wpAnyD_one (i := 11) (by kernel_rfl) rfl (by kernel_rfl) ?_
  go_simp
  refine wpAnyD_one (i := 12) (by kernel_rfl) rfl (by kernel_rfl) ?_
  go_simp
  refine wpAnyD_done (by kernel_rfl) ?_ _
  refine onlyN_mk ?_
  go_wp2_with fail
  go_ret
  exact ⟨by rw [← HC.out]; rfl, hbf⟩
set_option maxRecDepth 100000 in
set_option maxHeartbeats 2000000 in
theorem change1_any (s : ByteArray) (i : Nat) (c : UInt8) (w : World) (hs : s.size ≤ 2 ^ 40) (hi : i ≤ s.size) :
    Calls Tryd.prog 20 #[.string s, .int .i64 i, .int .i64 1, .int .u8 c.toNat] w fun e w' => e = .returned (.string ⟨(chg s.data.toList i 1 c).toArray⟩) ∧ Below w.heap.size w w' := by
  have hc := chg1 (s := s) rfl i c
  have HC := Lib.hid hc
  have hc256 := u8_lt c
  have hn1 : ¬ s.size < i := by omega
  have hm1 : ¬ 9223372036854775807 < min i s.size + 1 := by omega
  have hm2 : ¬ 9223372036854775807 < min i s.size + 1 + (s.size - i) := by omega
  have hm3 : ¬ 9223372036854775807 < i + 1 := by omega
  have hm4 : ¬ 9223372036854775807 < i + 1 + (s.size - i) := by omega
  have hcv : (convert 53 9 (.slice (some ⟨w.heap.size, 0, none⟩) 1 1)).run Tryd.prog ((w.alloc (.cells #[.int .u8 c.toNat] 5)).drew) = .ok (.string ⟨#[c]⟩) ((w.alloc (.cells #[.int .u8 c.toNat] 5)).drew) := by
    have hb : Byts (w.heap.size + 1) ((w.alloc (.cells #[.int .u8 c.toNat] 5)).drew) (.slice (some ⟨w.heap.size, 0, none⟩) 1 1) [c] := by
      refine Byts.mk_cells (l := [c]) (by simp) (by simp [maxLen]) (by omega) fun j hj => ?_
      obtain rfl : j = 0 := by simpa using hj
      exact (Blk.new w #[.int .u8 c.toNat] 5).at rfl
    exact conv_str hb
  have hbf : Below w.heap.size w ((w.alloc (.cells #[.int .u8 c.toNat] 5)).drew) := ((Below.refl _ w).alloc (Nat.le_refl _) (.cells #[.int .u8 c.toNat] 5)).trans ⟨rfl, rfl, rfl, Nat.le_refl _, fun _ _ => rfl⟩
  clear hc
  go_enter Tryd.func20, Tryd.ntmps20
  go_wp2_with fail
  refine wp_onlyN ?_
  refine region_plain (fun _ => True) [] (by kernel_rfl) ?_
  have q0 : (fun _ : World => True) w.drew := trivial
  refine wpAnyD_take (i := 0) (v := .string s) rfl (by kernel_rfl) (by kernel_rfl) (by kernel_rfl) (by kernel_rfl) (by kernel_rfl) (fun _ _ _ h => h) (.inl ⟨by kernel_rfl, fun W' hS => by go_simp⟩) q0 ?_
  refine wpAnyD_take (i := 1) (v := .int .i64 i) rfl (by kernel_rfl) (by kernel_rfl) (by kernel_rfl) (by kernel_rfl) (by kernel_rfl) (fun _ _ _ h => h) (.inl ⟨by kernel_rfl, fun W' hS => by go_simp⟩) q0 ?_
  refine wpAnyD_take (i := 2) (v := .string (s.extract 0 i)) rfl (by kernel_rfl) (by kernel_rfl) (by kernel_rfl) (by kernel_rfl) (by kernel_rfl) (fun _ _ _ h => h) (.inl ⟨by kernel_rfl, fun W' hS => by go_simp⟩) q0 ?_
  refine wpAnyD_take (i := 3) (v := .int .u8 c.toNat) rfl (by kernel_rfl) (by kernel_rfl) (by kernel_rfl) (by kernel_rfl) (by kernel_rfl) (fun _ _ _ h => h) (.inl ⟨by kernel_rfl, fun W' hS => by go_simp⟩) q0 ?_
  refine wpAnyD_take (i := 7) (v := .string s) rfl (by kernel_rfl) (by kernel_rfl) (by kernel_rfl) (by kernel_rfl) (by kernel_rfl) (fun _ _ _ h => h) (.inl ⟨by kernel_rfl, fun W' hS => by go_simp⟩) q0 ?_
  refine wpAnyD_take (i := 8) (v := .int .i64 i) rfl (by kernel_rfl) (by kernel_rfl) (by kernel_rfl) (by kernel_rfl) (by kernel_rfl) (fun _ _ _ h => h) (.inl ⟨by kernel_rfl, fun W' hS => by go_simp⟩) q0 ?_
  refine wpAnyD_take (i := 9) (v := .string (s.extract i s.size)) rfl (by kernel_rfl) (by kernel_rfl) (by kernel_rfl) (by kernel_rfl) (by kernel_rfl) (fun _ _ _ h => h) (.inl ⟨by kernel_rfl, fun W' hS => by go_simp⟩) q0 ?_
  refine wpAnyD_one (i := 4) (by kernel_rfl) rfl (by kernel_rfl) ?_
  go_simp
  refine wpAnyD_one (i := 5) (by kernel_rfl) rfl (by kernel_rfl) ?_
  go_simp
  refine wpAnyD_one (i := 6) (by kernel_rfl) rfl (by kernel_rfl) ?_
  go_simp
  refine wpAnyD_one (i := 10) (by kernel_rfl) rfl (by kernel_rfl) ?_
  go_simp
  refine wpAnyD_one (i := 11) (by kernel_rfl) rfl (by kernel_rfl) ?_
  go_simp
  refine wpAnyD_done (by kernel_rfl) ?_ _
  refine onlyN_mk ?_
  go_wp2_with fail
  go_ret
  exact ⟨by rw [← HC.out]; rfl, hbf⟩
set_option maxRecDepth 100000 in
set_option maxHeartbeats 2000000 in
theorem change2_any (s : ByteArray) (i : Nat) (c : UInt8) (w : World) (hs : s.size ≤ 2 ^ 40) (hi : i < s.size) :
    Calls Tryd.prog 20 #[.string s, .int .i64 i, .int .i64 2, .int .u8 c.toNat] w fun e w' => e = .returned (.string ⟨(chg s.data.toList i 2 c).toArray⟩) ∧ Below w.heap.size w w' := by
  have hc := chg2 (s := s) rfl i c
  have HC := Lib.hid hc
  have hc256 := u8_lt c
  have hn1 : ¬ s.size < i := by omega
  have hn2 : ¬ s.size < i + 1 := by omega
  have hn3 : ¬ (s.size : Int) < (i : Int) + 1 := by omega
  have hw1 : IntKind.i64.wrap ((i : Int) + 1) = (i : Int) + 1 := IntWalk.i64_in _ (by omega)
  have hw2 : ((i : Int) + 1).toNat = i + 1 := by omega
  have hw3 : (0 : Int) ≤ (i : Int) + 1 := by omega
  clear hc
  go_enter Tryd.func20, Tryd.ntmps20
  go_wp2_with fail
  go_quiet (fail)
  go_wp2_with fail
  go_ret
  exact ⟨by rw [← HC.out]; rfl, below_drewN2 (Below.refl _ w) _⟩
end Go.Proofs.YtaccaebdmndkiaaDoor
