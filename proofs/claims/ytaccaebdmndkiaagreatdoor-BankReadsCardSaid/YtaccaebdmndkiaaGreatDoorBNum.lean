/- Package bank: number. No conditions beyond the text's length. -/
import Derived.Test.YtaccaebdmndkiaaGreatDoorBEnd
import Derived.Test.YtaccaebdmndkiaaGreatDoorBRdLaw
import Derived.Test.YtaccaebdmndkiaaGreatDoorBShelf2
namespace Go.Proofs.YtaccaebdmndkiaaGreatDoor
open Go.RowKit
set_option linter.unusedVariables false

theorem bytes_eq {s : ByteArray} {l : List UInt8} (h : s.data.toList = l) : s = ⟨l.toArray⟩ := by
  subst h; cases s; simp
theorem toList_of {s : ByteArray} {l : List UInt8} (h : s.data.toList = l) : s.toList = l := by rw [← h]; exact Lib.toList_data s
theorem size_of {s : ByteArray} {l : List UInt8} (h : s.data.toList = l) : s.size = l.length := by rw [← h]; rfl
theorem dig_at {l : List UInt8} (k : Nat) (h : k < l.length) (ha : ∀ b ∈ l.take k, isDig b = true) (hb : isDig (l[k]?.getD 0) = true) : ∀ b ∈ l.take (k + 1), isDig b = true := by
  intro b h'
  rw [List.take_add_one, List.getElem?_eq_getElem h] at h'
  rcases List.mem_append.1 h' with h' | h'
  · exact ha b h'
  · simp only [Option.toList_some, List.mem_singleton] at h'
    subst h'
    rw [List.getElem?_eq_getElem h] at hb; exact hb
theorem num_over {l : List UInt8} {k : Nat} (h : 1099511627776 < digV 0 ((Lib.trimPrefix l [45]).take k)) : numOf l = none := by
  by_cases ha : ∀ b ∈ Lib.trimPrefix l [45], isDig b = true
  · exact num_big ha (Nat.lt_of_lt_of_le h (digV_take_le _ k))
  · refine num_bad (.inr (.inl ?_))
    simp only [Classical.not_forall] at ha
    obtain ⟨b, hb, hd⟩ := ha
    exact ⟨b, hb, by simpa using hd⟩
theorem isDig_iff (b : UInt8) : isDig b = true ↔ (48 : Int) ≤ (b.toNat : Int) ∧ (b.toNat : Int) ≤ 57 := by simp [isDig]; omega

set_option maxRecDepth 100000 in
set_option maxHeartbeats 1000000 in
theorem number_any (s : ByteArray) (w : World) (hs : s.size ≤ 2 ^ 40) :
    Calls Tryz.prog 58 #[.string s] w fun e w' => e = .returned (.tuple #[.int .i64 ((numOf s.data.toList).getD 0), .bool (numOf s.data.toList).isSome]) ∧ w = w' := by
  have hc := Tryz.strings_TrimPrefix s ⟨#[45]⟩ w
  obtain ⟨l, hl⟩ : ∃ l, s.data.toList = l := ⟨_, rfl⟩
  rw [hl, show (⟨#[45]⟩ : ByteArray).data.toList = [45] from rfl] at hc
  rw [hl]
  have hsl := size_of hl
  have hdl : (Lib.trimPrefix l [45]).length ≤ l.length := by
    unfold Lib.trimPrefix; split <;> simp
  have HL := Lib.hid hl
  clear hl
  obtain ⟨d, hd⟩ : ∃ d, Lib.trimPrefix l [45] = d := ⟨_, rfl⟩
  rw [hd] at hc hdl
  obtain ⟨t, ht⟩ : ∃ t : ByteArray, (⟨d.toArray⟩ : ByteArray) = t := ⟨_, rfl⟩
  rw [ht] at hc
  have htd : t.data.toList = d := by rw [← ht]
  have htl := size_of htd
  have HT := Lib.hid htd
  have HD := Lib.hid hd
  clear ht htd hd
  have hfalse : numOf l = none → Ending.returned (.tuple #[.int .i64 0, .bool false]) = Ending.returned (.tuple #[.int .i64 ((numOf l).getD 0), .bool (numOf l).isSome]) := by
    intro h; rw [h]; rfl
  have HF := Lib.hid hfalse
  clear hfalse
  cases hdc : d with
  | nil =>
    subst hdc
    have h0 : t.toList = [] := by rw [toList_of HT.out]
    have hn : numOf l = none := num_bad (.inl (by rw [HD.out]; exact id))
    have HN := Lib.hid hn
    clear hn
    go_enter Tryz.func58, Tryz.ntmps58
    go_wp2_with fail
    refine hc.mono ?_
    rintro e w' ⟨rfl, rfl⟩
    clear hc
    go_wp2_with fail
    go_ret2
    exact ⟨HF.out HN.out, rfl⟩
  | cons x r =>
    have h0 : t.toList.isEmpty = false := by rw [toList_of HT.out, hdc]; rfl
    have h1 : ¬ t.toList = [] := by rw [toList_of HT.out, hdc]; simp
    have hpos : 0 < d.length := by rw [hdc]; simp
    have hpt : 0 < t.size := by omega
    have hx : t[0] = x := by rw [str_at HT.out hpt, hdc]; rfl
    have HDC := Lib.hid hdc
    clear hdc
    by_cases hb : x = 48 ∧ l ≠ [48]
    · obtain ⟨rfl, hb⟩ := hb
      have hn : numOf l = none := by
        by_cases hr : r = []
        · subst hr
          by_cases hl2 : l = [45, 48]
          · exact num_bad (.inr (.inr hl2))
          · exfalso
            have h3 := HD.out
            rw [HDC.out, Lib.trimPrefix] at h3
            split at h3
            · rename_i hp
              cases l with
              | nil => simp at h3
              | cons a b =>
                simp [Lib.hasPrefix] at hp
                simp only [List.length_singleton, List.drop_succ_cons, List.drop_zero] at h3
                subst h3
                exact hl2 (by rw [← hp])
            · exact hb h3
        · refine num_bad (.inl ?_)
          rw [HD.out, HDC.out]
          intro h
          exact hr (h rfl)
      have HN := Lib.hid hn
      have h2 : (!s.toList == [48]) = true := by rw [toList_of HL.out]; simpa using hb
      have h3 : (t[0].toNat : Int) = 48 := by rw [hx]; rfl
      clear hn hb hx
      go_enter Tryz.func58, Tryz.ntmps58
      go_wp2_with fail
      refine hc.mono ?_
      rintro e w' ⟨rfl, rfl⟩
      clear hc
      go_wp2_with fail
      all_goals go_ret2
      all_goals exact ⟨HF.out HN.out, rfl⟩
    · have hlead : Lead d := by
        rw [HDC.out]
        intro h
        by_cases h4 : l = [48]
        · have h3 := HD.out
          rw [HDC.out, h4, Lib.trimPrefix, if_neg (by simp [Lib.hasPrefix])] at h3
          simp only [List.cons.injEq] at h3
          exact h3.2.symm
        · exact absurd ⟨h, h4⟩ hb
      have h45 : l ≠ [45, 48] := by
        rintro rfl
        have h3 := HD.out
        rw [HDC.out] at h3
        simp [Lib.trimPrefix, Lib.hasPrefix] at h3
        exact hb ⟨h3.1.symm, by simp⟩
      have h48 : x = 48 → (!s.toList == [48]) = false := by
        intro h
        rw [toList_of HL.out]
        by_cases h4 : l = [48]
        · simp [h4]
        · exact absurd ⟨h, h4⟩ hb
      have HLEAD := Lib.hid hlead
      have H45 := Lib.hid h45
      clear hlead h45 hb
      have h40 : s.size ≤ 1099511627776 := hs
      have hdt : t.size ≤ 1099511627776 := by omega
      by_cases hx48 : x = 48
      case' pos =>
        have h2 := h48 hx48
        have h3 : (t[0].toNat : Int) = 48 := by rw [hx, hx48]; rfl
      case' neg =>
        have h3 : ¬ (t[0].toNat : Int) = 48 := by rw [hx]; intro h; exact hx48 (UInt8.toNat_inj.1 (by simpa using Int.ofNat_inj.1 h))
      all_goals
        clear h48 hx48 hx hs
        go_enter Tryz.func58, Tryz.ntmps58
        go_wp2_with fail
        refine hc.mono ?_
        rintro e w' ⟨rfl, rfl⟩
        clear hc
        go_wp2_with fail
        go_loop [5, 6] (fun v i => ∃ k : Nat, k ≤ t.size ∧ i = .int .i64 k ∧ ∃ n : Int, v = .int .i64 n ∧ 0 ≤ n ∧ n ≤ 1099511627776 ∧ Hid (n = (digV 0 (d.take k) : Int) ∧ ∀ b ∈ d.take k, isDig b = true)) (fun _ i => t.size - (intOf i).toNat)
        case atStart => exact ⟨0, Nat.zero_le _, rfl, 0, rfl, by omega, by omega, Lib.hid ⟨by simp [digV_nil], by simp⟩⟩
        case round =>
          obtain ⟨k, hk, rfl, n, rfl, hn0, hn1, HN⟩ := hrel
          by_cases hlt : k < t.size
          · have hkd : k < d.length := by omega
            obtain ⟨c, hcc⟩ : ∃ c, d[k]?.getD 0 = c := ⟨_, rfl⟩
            have hct : t[k] = c := by rw [str_at HT.out hlt, hcc]
            have HCT := Lib.hid hct
            have HCC := Lib.hid hcc
            have hc256 := u8_lt t[k]
            clear hct hcc
            by_cases hdig : (48 : Int) ≤ (t[k].toNat : Int) ∧ (t[k].toNat : Int) ≤ 57
            · obtain ⟨hd1, hd2⟩ := hdig
              have hcd : isDig c = true := by rw [isDig_iff, ← HCT.out]; exact ⟨hd1, hd2⟩
              have hstep := digV_take d k hkd
              rw [HCC.out] at hstep
              have hnew : 10 * n + ((t[k].toNat : Int) - 48) = (digV 0 (d.take (k + 1)) : Int) := by
                have h5 := HN.out.1
                have h6 : t[k].toNat = c.toNat := by rw [HCT.out]
                omega
              have HNEW := Lib.hid hnew
              have HDIG := Lib.hid (dig_at k hkd HN.out.2 (by rw [HCC.out]; exact hcd))
              clear hnew hstep hcd
              by_cases hbig : (1099511627776 : Int) < 10 * n + ((t[k].toNat : Int) - 48)
              · have hno : numOf l = none := num_over (k := k + 1) (by rw [HD.out]; have h5 := HNEW.out; omega)
                have HNO := Lib.hid hno
                clear hno
                go_wp2_with fail
                go_ret2
                exact ⟨HF.out HNO.out, rfl⟩
              · have hbig' : 10 * n + ((t[k].toNat : Int) - 48) ≤ 1099511627776 := by omega
                clear hbig
                go_wp2_with fail
                refine ⟨⟨k + 1, by omega, by go_num, _, rfl, by omega, by omega, Lib.hid ⟨HNEW.out, HDIG.out⟩⟩, by simp [intOf]; omega⟩
            · have hno : numOf l = none := by
                refine num_bad (.inr (.inl ⟨c, ?_, ?_⟩))
                · rw [HD.out, ← HCC.out]; exact getD_mem hkd 0
                · cases h6 : isDig c with
                  | false => rfl
                  | true => rw [isDig_iff, ← HCT.out] at h6; exact absurd h6 hdig
              have HNO := Lib.hid hno
              clear hno
              by_cases hlo : (t[k].toNat : Int) < 48
              · clear hdig
                go_wp2_with fail
                go_ret2
                exact ⟨HF.out HNO.out, rfl⟩
              · have hhi : (57 : Int) < (t[k].toNat : Int) := by omega
                clear hdig
                go_wp2_with fail
                go_ret2
                exact ⟨HF.out HNO.out, rfl⟩
          · obtain rfl : k = t.size := by omega
            have hfin : numOf l = some (if d.length < l.length then -n else n) := by
              have h5 := HN.out.1
              have h6 := HN.out.2
              rw [List.take_of_length_le (by omega)] at h5 h6
              have h7 := num_good (l := l) (by rw [HD.out]; exact HLEAD.out) (by rw [HD.out]; exact h6) H45.out (by rw [HD.out]; omega)
              rw [HD.out, ← h5] at h7
              exact h7
            have HFIN := Lib.hid hfin
            clear hfin
            by_cases hneg : d.length < l.length
            · go_wp2_with fail
              go_ret2
              rw [HFIN.out, if_pos hneg]
              exact ⟨rfl, rfl⟩
            · go_wp2_with fail
              go_ret2
              rw [HFIN.out, if_neg hneg]
              exact ⟨rfl, rfl⟩
end Go.Proofs.YtaccaebdmndkiaaGreatDoor
