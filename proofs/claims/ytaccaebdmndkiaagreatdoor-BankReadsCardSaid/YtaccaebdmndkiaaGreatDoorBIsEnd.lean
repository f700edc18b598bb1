/- Package bank: isEnd. No conditions beyond the text's length. -/
import Derived.Test.YtaccaebdmndkiaaGreatDoorBNums
namespace Go.Proofs.YtaccaebdmndkiaaGreatDoor
open Go.RowKit
set_option linter.unusedVariables false

theorem isHexd_iff (b : UInt8) : isHexd b = true ↔ ((48 : Int) ≤ (b.toNat : Int) ∧ (b.toNat : Int) ≤ 57) ∨ ((97 : Int) ≤ (b.toNat : Int) ∧ (b.toNat : Int) ≤ 102) := by simp [isHexd]; omega
theorem all_take {p : UInt8 → Bool} {l : List UInt8} (k : Nat) (h : k < l.length) (ha : ∀ b ∈ l.take k, p b = true) (hb : p (l[k]?.getD 0) = true) : ∀ b ∈ l.take (k + 1), p b = true := by
  intro b h'
  rw [List.take_add_one, List.getElem?_eq_getElem h] at h'
  rcases List.mem_append.1 h' with h' | h'
  · exact ha b h'
  · simp only [Option.toList_some, List.mem_singleton] at h'
    subst h'
    rw [List.getElem?_eq_getElem h] at hb; exact hb
theorem all_bad {p : UInt8 → Bool} {l : List UInt8} {k : Nat} (h : k < l.length) (hb : p (l[k]?.getD 0) = false) : l.all p = false := by
  rw [List.all_eq_false]
  exact ⟨_, getD_mem h 0, by rw [hb]; simp⟩

set_option maxRecDepth 100000 in
set_option maxHeartbeats 1000000 in
theorem isEnd1_any (s : ByteArray) (w : World) (hs : s.size ≤ 2 ^ 30) :
    Calls Tryz.prog 73 #[.string s] w fun e w' => e = .returned (.bool (s.data.toList.all isHexd)) ∧ w = w' := by
  obtain ⟨l, hl⟩ : ∃ l, s.data.toList = l := ⟨_, rfl⟩
  have hsl := size_of hl
  have HL := Lib.hid hl
  rw [hl]
  have HSL := Lib.hid hsl
  clear hl hsl
  go_enter Tryz.func73, Tryz.ntmps73
  go_wp2
  go_loop [3] (fun i => ∃ k : Nat, k ≤ s.size ∧ i = .int .i64 k ∧ Hid (∀ b ∈ l.take k, isHexd b = true)) (fun i => s.size - (intOf i).toNat)
  case atStart => exact ⟨0, Nat.zero_le _, rfl, Lib.hid (by simp)⟩
  case round =>
    obtain ⟨k, hk, rfl, HA⟩ := hrel
    by_cases hlt : k < s.size
    · have hkl : k < l.length := by rw [← HSL.out]; exact hlt
      obtain ⟨c, hcc⟩ : ∃ c, l[k]?.getD 0 = c := ⟨_, rfl⟩
      have hct : s[k] = c := by rw [str_at HL.out hlt, hcc]
      have hok : isHexd c = true → ∀ b ∈ l.take (k + 1), isHexd b = true := fun h => all_take k hkl HA.out (by rw [hcc]; exact h)
      have hno : ¬ isHexd c = true → l.all isHexd = false := fun h => all_bad hkl (by rw [hcc]; simpa using h)
      rw [isHexd_iff, ← hct] at hok hno
      have HOK := Lib.hid hok
      have HNO := Lib.hid hno
      have hc256 := u8_lt s[k]
      clear hct hcc hok hno
      have hcase : (s[k].toNat : Int) < 48 ∨ ((48 : Int) ≤ (s[k].toNat : Int) ∧ (s[k].toNat : Int) ≤ 57) ∨ ((57 : Int) < (s[k].toNat : Int) ∧ (s[k].toNat : Int) < 97) ∨ ((97 : Int) ≤ (s[k].toNat : Int) ∧ (s[k].toNat : Int) ≤ 102) ∨ (102 : Int) < (s[k].toNat : Int) := by omega
      rcases hcase with h | ⟨h, h'⟩ | ⟨h, h'⟩ | ⟨h, h'⟩ | h
      · have h2 : ¬ (97 : Int) ≤ (s[k].toNat : Int) := by omega
        go_wp2
        go_ret
        exact ⟨ret_bool (HNO.out (by omega)).symm, rfl⟩
      · go_wp2
        exact ⟨⟨k + 1, by omega, by go_num, Lib.hid (HOK.out (by omega))⟩, by simp [intOf]; omega⟩
      · have h3 : decide ((s[k].toNat : Int) ≤ 57) = false := decide_eq_false (by omega)
        go_wp2
        go_ret
        exact ⟨ret_bool (HNO.out (by omega)).symm, rfl⟩
      · have h2 : (57 : Int) < (s[k].toNat : Int) := by omega
        have h3 : decide ((s[k].toNat : Int) ≤ 57) = false := decide_eq_false (by omega)
        go_wp2
        exact ⟨⟨k + 1, by omega, by go_num, Lib.hid (HOK.out (by omega))⟩, by simp [intOf]; omega⟩
      · have h2 : (57 : Int) < (s[k].toNat : Int) := by omega
        have h4 : decide ((s[k].toNat : Int) ≤ 102) = false := decide_eq_false (by omega)
        have h3 : decide ((s[k].toNat : Int) ≤ 57) = false := decide_eq_false (by omega)
        go_wp2
        go_ret
        exact ⟨ret_bool (HNO.out (by omega)).symm, rfl⟩
    · have hfin : l.all isHexd = true := by
        rw [List.all_eq_true]
        have h := HA.out
        rw [List.take_of_length_le (by rw [← HSL.out]; omega)] at h
        exact h
      have HF := Lib.hid hfin
      clear hfin
      go_wp2
      go_ret
      exact ⟨ret_bool HF.out.symm, rfl⟩
set_option maxRecDepth 100000 in
set_option maxHeartbeats 1000000 in
theorem isEnd_any (s : ByteArray) (w : World) (hs : s.size ≤ 2 ^ 30) :
    Calls Tryz.prog 59 #[.string s] w fun e w' => e = .returned (.bool (endForm s.data.toList)) ∧ w = w' := by
  obtain ⟨l, hl⟩ : ∃ l, s.data.toList = l := ⟨_, rfl⟩
  have hsl := size_of hl
  have HL := Lib.hid hl
  rw [hl]
  by_cases h22 : s.size = 22
  case neg =>
    have hr : endForm l = false := by
      unfold endForm
      have : (l.length == 22) = false := by rw [beq_eq_false_iff_ne, ← hsl]; exact h22
      rw [this]; rfl
    have hne : ((s.size : Int) != 22) = true := by rw [bne_iff_ne]; omega
    have HR := Lib.hid hr
    clear hr hl hsl
    go_enter Tryz.func59, Tryz.ntmps59
    go_wp2
    go_ret
    exact ⟨ret_bool HR.out.symm, rfl⟩
  case pos =>
    have hll : (l.length == 22) = true := by rw [beq_iff_eq, ← hsl]; exact h22
    have hne : ((s.size : Int) != 22) = false := by rw [bne_eq_false_iff_eq]; omega
    have b1 : 21 < s.size := by omega
    have b2 : s.size ≤ 22 := by omega
    have e1 : (s.extract 0 4).toList = l.take 4 := by rw [Lib.extract_toList, hl]; rfl
    have hb12 : 12 < s.size := by omega
    have hb21 : 21 < s.size := by omega
    have d12 : s[12]'hb12 = l[12]?.getD 0 := str_at hl (by omega)
    have d21 : s[21]'hb21 = l[21]?.getD 0 := str_at hl (by omega)
    have f1 := isEnd1_any (s.extract 4 12) w (by simp; omega)
    have f2 := isEnd1_any (s.extract 13 21) w (by simp; omega)
    rw [Lib.extract_data, hl] at f1 f2
    have hform : endForm l = (l.take 4 == [69, 78, 68, 32] && ((l[12]?.getD 0) == 32 && ((l[21]?.getD 0) == 10 && (((l.drop 4).take 8).all isHexd && ((l.drop 13).take 8).all isHexd)))) := by
      unfold endForm; rw [hll]; rfl
    have HFM := Lib.hid hform
    clear hform hl hsl h22 hll
    obtain ⟨x1, hx1⟩ : ∃ x, (l.take 4 == [69, 78, 68, 32]) = x := ⟨_, rfl⟩
    obtain ⟨x2, hx2⟩ : ∃ x, (l[12]?.getD 0 == 32) = x := ⟨_, rfl⟩
    obtain ⟨x3, hx3⟩ : ∃ x, (l[21]?.getD 0 == 10) = x := ⟨_, rfl⟩
    obtain ⟨x4, hx4⟩ : ∃ x, ((l.drop 4).take 8).all isHexd = x := ⟨_, rfl⟩
    obtain ⟨x5, hx5⟩ : ∃ x, ((l.drop 13).take 8).all isHexd = x := ⟨_, rfl⟩
    have hend : endForm l = (x1 && (x2 && (x3 && (x4 && x5)))) := by rw [HFM.out, hx1, hx2, hx3, hx4, hx5]
    have HE := Lib.hid hend
    rw [show (12 - 4) = 8 from rfl, hx4] at f1
    rw [show (21 - 13) = 8 from rfl, hx5] at f2
    have t1 : (!(s.extract 0 4).toList == [69, 78, 68, 32]) = !x1 := by rw [e1, hx1]
    have t2 : ((((s[12]'hb12).toNat : Nat) : Int) != 32) = !x2 := by
      rw [← hx2, d12]
      generalize l[12]?.getD 0 = c
      rw [Bool.eq_iff_iff, bne_iff_ne, Bool.not_eq_true', beq_eq_false_iff_ne]
      constructor
      · rintro h rfl; exact h rfl
      · intro h e; exact h (UInt8.toNat_inj.1 (by simpa using Int.ofNat_inj.1 e))
    have t3 : ((((s[21]'hb21).toNat : Nat) : Int) != 10) = !x3 := by
      rw [← hx3, d21]
      generalize l[21]?.getD 0 = c
      rw [Bool.eq_iff_iff, bne_iff_ne, Bool.not_eq_true', beq_eq_false_iff_ne]
      constructor
      · rintro h rfl; exact h rfl
      · intro h e; exact h (UInt8.toNat_inj.1 (by simpa using Int.ofNat_inj.1 e))
    clear hend hx1 hx2 hx3 hx4 hx5 e1 d12 d21 HFM
    cases x1 with
    | false =>
      go_enter Tryz.func59, Tryz.ntmps59
      go_wp2
      go_ret
      exact ⟨ret_bool HE.out.symm, rfl⟩
    | true =>
    cases x2 with
    | false =>
      go_enter Tryz.func59, Tryz.ntmps59
      go_wp2
      go_ret
      exact ⟨ret_bool HE.out.symm, rfl⟩
    | true =>
    cases x3 with
    | false =>
      go_enter Tryz.func59, Tryz.ntmps59
      go_wp2
      go_ret
      exact ⟨ret_bool HE.out.symm, rfl⟩
    | true =>
      cases x4 with
      | false =>
        go_enter Tryz.func59, Tryz.ntmps59
        go_wp2_with fail
        refine f1.mono ?_
        rintro e w' ⟨rfl, rfl⟩
        go_wp2_with fail
        go_ret
        exact ⟨ret_bool HE.out.symm, rfl⟩
      | true =>
        go_enter Tryz.func59, Tryz.ntmps59
        go_wp2_with fail
        refine f1.mono ?_
        rintro e w' ⟨rfl, rfl⟩
        go_wp2_with fail
        refine f2.mono ?_
        rintro e w' ⟨rfl, rfl⟩
        go_wp2_with fail
        go_ret
        exact ⟨ret_bool HE.out.symm, rfl⟩
end Go.Proofs.YtaccaebdmndkiaaGreatDoor
