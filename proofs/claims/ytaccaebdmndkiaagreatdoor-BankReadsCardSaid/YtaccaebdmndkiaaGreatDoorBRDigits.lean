/- The reference's function digits. No conditions beyond those stated. -/
import Derived.Test.YtaccaebdmndkiaaGreatDoorBRPieces
namespace Go.Proofs.YtaccaebdmndkiaaGreatDoor
open Go.RowKit
set_option linter.unusedVariables false

theorem all_to {l : List UInt8} {f : UInt8 → Bool} (h : ∀ q, q < l.length → f (l[q]?.getD 0) = true) : l.all f = true := by
  rw [List.all_eq_true]
  intro x hx
  obtain ⟨i, hi, rfl⟩ := List.getElem_of_mem hx
  have := h i hi
  rwa [List.getElem?_eq_getElem hi] at this
theorem all_no {l : List UInt8} {f : UInt8 → Bool} {q : Nat} (hq : q < l.length) (h : f (l[q]?.getD 0) = false) : l.all f = false := by
  rw [List.all_eq_false]
  rw [List.getElem?_eq_getElem hq] at h
  exact ⟨l[q], List.getElem_mem _, by simp only [Option.getD_some] at h; rw [h]; simp⟩

set_option maxRecDepth 100000 in
set_option maxHeartbeats 2000000 in
theorem digits_any (s : ByteArray) (w : World) (hs : s.size ≤ 1048576) :
    Calls Tryz.prog 62 #[.string s] w fun e w' => e = .returned (.bool (s.data.toList.all isHexd)) ∧ w = w' := by
  obtain ⟨l, hl⟩ : ∃ l, s.data.toList = l := ⟨_, rfl⟩
  rw [hl]
  have HL := Lib.hid hl
  have HSZ := Lib.hid (size_of hl)
  clear hl
  go_enter Tryz.func62, Tryz.ntmps62
  go_wp2_with fail
  go_loopw [3] (fun i wr => ∃ k : Nat, k ≤ s.size ∧ i = .int .i64 k ∧ (∀ q, q < k → isHexd (l[q]?.getD 0) = true) ∧ w = wr) (fun i _ => s.size - (intOf i).toNat)
  case atStart => exact ⟨0, Nat.zero_le _, rfl, fun q hq => absurd hq (Nat.not_lt_zero _), rfl⟩
  case round =>
    obtain ⟨k, hk, rfl, hok, rfl⟩ := hrel
    have HOK := Lib.hid hok
    clear hok
    by_cases hlt : k < s.size
    · have hch : s[k] = l[k]?.getD 0 := str_at HL.out hlt
      have b1 : (0 : Int) ≤ (k : Int) := by omega
      have b2 : (k : Int) < (s.size : Int) := by omega
      obtain ⟨b, hb⟩ : ∃ b, l[k]?.getD 0 = b := ⟨_, rfl⟩
      rw [hb] at hch
      have HCH := Lib.hid hch
      have HB := Lib.hid hb
      clear hch hb
      have good : isHexd b = true → Hid (∀ q, q < k + 1 → isHexd (l[q]?.getD 0) = true) := fun h => Lib.hid fun q hq => by
        by_cases h' : q < k
        · exact HOK.out q h'
        · obtain rfl : q = k := by omega
          rw [HB.out]; exact h
      have bad : isHexd b = false → l.all isHexd = false := fun h => all_no (by rw [← HSZ.out]; exact hlt) (by rw [HB.out]; exact h)
      by_cases h1 : b.toNat < 48
      · have g1 : decide (((s[k]).toNat : Int) < 48) = true := by rw [HCH.out]; exact decide_eq_true (by omega)
        have g2 : decide (((s[k]).toNat : Int) < 97) = true := by rw [HCH.out]; exact decide_eq_true (by omega)
        have hbad := bad (by simp [isHexd]; omega)
        clear h1 good bad
        go_wp2_with fail
        go_ret
        rw [hbad]
        exact ⟨rfl, rfl⟩
      have g1 : decide (((s[k]).toNat : Int) < 48) = false := by rw [HCH.out]; exact decide_eq_false (by omega)
      by_cases h2 : 57 < b.toNat
      case neg =>
        have g2 : decide ((57 : Int) < ((s[k]).toNat : Int)) = false := by rw [HCH.out]; exact decide_eq_false (by omega)
        have hg := good (by simp [isHexd]; omega)
        clear h1 h2 good bad
        go_wp2_with fail
        exact ⟨⟨k + 1, by omega, by go_num, hg.out, trivial⟩, by simp [intOf]; omega⟩
      have g2 : decide ((57 : Int) < ((s[k]).toNat : Int)) = true := by rw [HCH.out]; exact decide_eq_true (by omega)
      by_cases h3 : b.toNat < 97
      · have g3 : decide (((s[k]).toNat : Int) < 97) = true := by rw [HCH.out]; exact decide_eq_true (by omega)
        have hbad := bad (by simp [isHexd]; omega)
        clear h1 h2 h3 good bad
        go_wp2_with fail
        go_ret
        rw [hbad]
        exact ⟨rfl, rfl⟩
      have g3 : decide (((s[k]).toNat : Int) < 97) = false := by rw [HCH.out]; exact decide_eq_false (by omega)
      by_cases h4 : 102 < b.toNat
      · have g4 : decide ((102 : Int) < ((s[k]).toNat : Int)) = true := by rw [HCH.out]; exact decide_eq_true (by omega)
        have hbad := bad (by simp [isHexd]; omega)
        clear h1 h2 h3 h4 good bad
        go_wp2_with fail
        go_ret
        rw [hbad]
        exact ⟨rfl, rfl⟩
      have g4 : decide ((102 : Int) < ((s[k]).toNat : Int)) = false := by rw [HCH.out]; exact decide_eq_false (by omega)
      have hg := good (by simp [isHexd]; omega)
      clear h1 h2 h3 h4 good bad
      go_wp2_with fail
      exact ⟨⟨k + 1, by omega, by go_num, hg.out, trivial⟩, by simp [intOf]; omega⟩
    · obtain rfl : k = s.size := by omega
      have hall : l.all isHexd = true := all_to (by rw [← HSZ.out]; exact HOK.out)
      go_wp2_with fail
      go_ret
      rw [hall]
      exact ⟨rfl, rfl⟩
end Go.Proofs.YtaccaebdmndkiaaGreatDoor
