/- Package bank: the end of a text. No conditions beyond those stated. -/
import Derived.Test.YtaccaebdmndkiaaGreatDoorBText
namespace Go.Proofs.YtaccaebdmndkiaaGreatDoor
open Go.RowKit
set_option linter.unusedVariables false

abbrev S (l : List UInt8) : Value := .string ⟨l.toArray⟩
theorem str_app (a b : List UInt8) : (⟨a.toArray⟩ : ByteArray) ++ (⟨b.toArray⟩ : ByteArray) = ⟨(a ++ b).toArray⟩ := by
  apply ByteArray.ext
  rw [ByteArray.data_append]
  simp
theorem str_size (l : List UInt8) : (⟨l.toArray⟩ : ByteArray).size = l.length := by
  show l.toArray.size = _; simp
theorem repeatL_one (x : UInt8) (c : Nat) : Lib.repeatL [x] c = List.replicate c x := by
  induction c with
  | zero => rfl
  | succ c ih => rw [Lib.repeatL, ih]; rfl

theorem isFmt_16 (n : Nat) (w : World) (hT : w.cell? ⟨5, 15, none⟩ = some (.int .u8 4)) (h1 : n < 4294967296) :
    Calls Tryz.prog 79 #[.int .u64 n, .int .i64 16] w fun e w' => ∃ m, 1 ≤ m ∧ m ≤ 8 ∧ n < 16 ^ m ∧ e = .returned (.string ⟨(hexk m n).toArray⟩) ∧ Below w.heap.size w w' := by
  go_enter Tryz.func79, Tryz.ntmps79
  go_wp2_with (go_at_call 92; refine (bits_16 n _ hT h1).mono ?_; rintro e w1 ⟨m, hm1, hm2, hm3, rfl, hb⟩)
  go_ret
  exact ⟨m, hm1, hm2, hm3, rfl, hb⟩
theorem scFmt_16 (n : Nat) (w : World) (hT : w.cell? ⟨5, 15, none⟩ = some (.int .u8 4)) (h1 : n < 4294967296) :
    Calls Tryz.prog 68 #[.int .u64 n, .int .i64 16] w fun e w' => ∃ m, 1 ≤ m ∧ m ≤ 8 ∧ n < 16 ^ m ∧ e = .returned (.string ⟨(hexk m n).toArray⟩) ∧ Below w.heap.size w w' := by
  go_enter Tryz.func68, Tryz.ntmps68
  go_wp2_with (go_at_call 79; refine (isFmt_16 n _ hT h1).mono ?_; rintro e w1 ⟨m, hm1, hm2, hm3, rfl, hb⟩)
  go_ret
  exact ⟨m, hm1, hm2, hm3, rfl, hb⟩
theorem rep_0 (m : Nat) (hm : m ≤ 8) (w : World) : Calls Tryz.prog 69 #[.string ⟨#[48]⟩, .int .i64 (8 - (m : Int))] w fun e w' => e = .returned (.string ⟨(List.replicate (8 - m) 48).toArray⟩) ∧ Below w.heap.size w w' := by
  have h := Tryz.strings_Repeat ⟨#[48]⟩ (8 - m) w (by omega) (by show 1 * _ ≤ _; omega)
  rw [show ((8 - m : Nat) : Int) = 8 - (m : Int) by omega] at h
  refine h.mono ?_
  rintro e w' ⟨rfl, hb⟩
  exact ⟨by rw [show (⟨#[48]⟩ : ByteArray).data.toList = [48] from rfl, repeatL_one], hb⟩
theorem hex_any (n : Nat) (w : World) (hT : w.cell? ⟨5, 15, none⟩ = some (.int .u8 4)) (h1 : n < 4294967296) :
    Calls Tryz.prog 67 #[.int .u32 n] w fun e w' => e = .returned (.string ⟨(hex8 n).toArray⟩) ∧ Below w.heap.size w w' := by
  have hw : IntKind.u64.wrap (n : Int) = n := by rw [IntKind.wrap_u64]; omega
  go_enter Tryz.func67, Tryz.ntmps67
  go_wp2_with fail
  refine (scFmt_16 n _ hT h1).mono ?_
  rintro e w1 ⟨m, hm1, hm2, hm3, rfl, hb⟩
  have hl : (⟨(hexk m n).toArray⟩ : ByteArray).size = m := by rw [str_size, hexk_length]
  go_wp2_with (go_at_call 69; refine (rep_0 m hm2 _).mono ?_; rintro e w2 ⟨rfl, hb2⟩)
  go_ret
  refine ⟨?_, hb.trans (hb2.mono hb.size)⟩
  show Ending.returned (Value.string (⟨(List.replicate (8 - m) 48).toArray⟩ ++ ⟨(hexk m n).toArray⟩)) = _
  rw [str_app, ← hexk_pad m (8 - m) n hm3, show m + (8 - m) = 8 by omega]
  rfl
set_option maxHeartbeats 1000000 in
theorem end_any (l : List UInt8) (w : World) (hl : l.length ≤ 2 ^ 40) (hT : w.cell? ⟨5, 15, none⟩ = some (.int .u8 4)) :
    Calls Tryz.prog 56 #[.string ⟨l.toArray⟩] w fun e w' => e = .returned (.string ⟨(endB l).toArray⟩) ∧ Below w.heap.size w w' := by
  have hs := sums_any ⟨l.toArray⟩ w (by rw [str_size]; exact hl)
  rw [show (⟨l.toArray⟩ : ByteArray).data.toList = l from List.toList_toArray] at hs
  have ha1 : sA l % 4294967296 < 4294967296 := Nat.mod_lt _ (by omega)
  have hb1 : sW 0 l % 4294967296 < 4294967296 := Nat.mod_lt _ (by omega)
  unfold endB
  generalize sA l % 4294967296 = a at hs ha1 ⊢
  generalize sW 0 l % 4294967296 = b at hs hb1 ⊢
  have e1 : (hex8 a).length = 8 := hexk_length 8 a
  have e2 : (hex8 b).length = 8 := hexk_length 8 b
  clear hl
  go_enter Tryz.func56, Tryz.ntmps56
  go_wp2_with fail
  refine hs.mono ?_
  rintro e w1 ⟨rfl, rfl⟩
  go_wp2_with fail
  refine (hex_any a w hT ha1).mono ?_
  rintro e w2 ⟨rfl, hb2⟩
  have hT2 := (hb2.cell (p := ⟨5, 15, none⟩) (World.block_lt_of_cell? w _ hT)).trans hT
  go_wp2_with fail
  refine (hex_any b w2 hT2 hb1).mono ?_
  rintro e w3 ⟨rfl, hb3⟩
  go_wp2_with fail
  go_ret
  refine ⟨?_, hb2.trans (hb3.mono hb2.size)⟩
  show Ending.returned (Value.string (((((⟨[69, 78, 68, 32].toArray⟩ ++ ⟨(hex8 a).toArray⟩) ++ ⟨[32].toArray⟩) ++ ⟨(hex8 b).toArray⟩) ++ ⟨[10].toArray⟩ : ByteArray))) = _
  rw [str_app, str_app, str_app, str_app]
  simp
end Go.Proofs.YtaccaebdmndkiaaGreatDoor
