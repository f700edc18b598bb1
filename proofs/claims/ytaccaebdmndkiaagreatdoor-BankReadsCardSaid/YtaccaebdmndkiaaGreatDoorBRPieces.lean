/- The reference's function pieces: a text cut at a byte. No conditions beyond those stated. -/
import Derived.Test.YtaccaebdmndkiaaGreatDoorBOwnV
namespace Go.Proofs.YtaccaebdmndkiaaGreatDoor
open Go.RowKit
set_option linter.unusedVariables false

def strV (p : List UInt8) : Value := .string ⟨p.toArray⟩
theorem Tryz.infoStr : (Tryz.prog.info? 9).map (fun i => (i.zero, i.size, i.bytes)) = some (some (.string ⟨#[]⟩), 1, 16) := by kernel_rfl
theorem extract_str {s : ByteArray} {l : List UInt8} (hl : s.data.toList = l) {f k : Nat} (hfk : f ≤ k) (hk : k ≤ s.size) : s.extract f k = ⟨((l.drop f).take (k - f)).toArray⟩ := by
  apply ByteArray.ext
  rw [ByteArray.data_extract]
  apply Array.toList_inj.1
  rw [Array.toList_extract, hl, List.extract_eq_take_drop]
theorem cut_take {c : UInt8} {l : List UInt8} {f k : Nat} (hk : k < l.length) (hfk : f ≤ k) (hc : l[k]?.getD 0 = c) (hno : c ∉ (l.drop f).take (k - f)) : cutAt c (l.drop f) = (l.drop f).take (k - f) :: cutAt c (l.drop (k + 1)) := by
  have h : l.drop f = (l.drop f).take (k - f) ++ c :: l.drop (k + 1) := by
    conv => lhs; rw [← List.take_append_drop (k - f) (l.drop f)]
    congr 1
    rw [List.drop_drop, show f + (k - f) = k by omega, List.drop_eq_getElem_cons hk]
    rw [List.getElem?_eq_getElem hk, Option.getD_some] at hc
    rw [hc]
  conv => lhs; rw [h]
  exact cutAt_hit hno _
theorem cut_more {c : UInt8} {l : List UInt8} {f k : Nat} (hk : k < l.length) (hfk : f ≤ k) (hc : ¬ l[k]?.getD 0 = c) (hno : c ∉ (l.drop f).take (k - f)) : c ∉ (l.drop f).take (k + 1 - f) := by
  rw [show k + 1 - f = (k - f) + 1 by omega, List.take_add_one, List.getElem?_drop, show f + (k - f) = k by omega]
  intro h
  rcases List.mem_append.1 h with h | h
  · exact hno h
  · rw [List.getElem?_eq_getElem hk] at h hc
    simp only [Option.toList, List.mem_cons, List.not_mem_nil, or_false] at h
    exact hc h.symm
theorem cut_last {c : UInt8} {l : List UInt8} {f : Nat} (hno : c ∉ (l.drop f).take (l.length - f)) : cutAt c (l.drop f) = [l.drop f] := by
  rw [List.take_of_length_le (by simp)] at hno
  exact cutAt_none hno

set_option maxRecDepth 100000 in
set_option maxHeartbeats 2000000 in
theorem pieces_any (s : ByteArray) (c : UInt8) (w : World) (hs : s.size ≤ 1048576) :
    Calls Tryz.prog 63 #[.string s, .int .u8 c.toNat] w fun e w' => ∃ v, e = .returned v ∧ OwnV w.heap.size 9 w' v ((cutAt c s.data.toList).map strV) ∧ Below w.heap.size w w' := by
  obtain ⟨l, hl⟩ : ∃ l, s.data.toList = l := ⟨_, rfl⟩
  rw [hl]
  have HL := Lib.hid hl
  have HSZ := Lib.hid (size_of hl)
  clear hl
  go_enter Tryz.func63, Tryz.ntmps63
  go_wp2_with fail
  go_loopw [5, 6, 7] (fun o fv i wr => ∃ (k f : Nat) (dn : List (List UInt8)), (k ≤ s.size ∧ f ≤ k) ∧ (i = .int .i64 k ∧ fv = .int .i64 f) ∧ OwnV w.heap.size 9 wr o (dn.map strV) ∧ Below w.heap.size w wr ∧ cutAt c l = dn ++ cutAt c (l.drop f) ∧ c ∉ (l.drop f).take (k - f) ∧ dn.length ≤ f) (fun _ _ i _ => s.size - (intOf i).toNat)
  case atStart => exact ⟨0, 0, [], ⟨Nat.zero_le _, Nat.le_refl _⟩, ⟨rfl, rfl⟩, OwnV.nil _ _ _, Below.refl _ _, by simp, by simp, Nat.le_refl _⟩
  case round =>
    obtain ⟨k, f, dn, ⟨hk, hfk⟩, ⟨rfl, rfl⟩, hO, hbr, hcut, hno, hdl⟩ := hrel
    obtain ⟨oa, oc, rfl⟩ := hO.form
    have hml : (dn.map strV).length ≤ 3000000 := by rw [List.length_map]; omega
    have hbs := hbr.size
    obtain ⟨P, hP⟩ : ∃ P, (dn.map strV).length = P := ⟨_, rfl⟩
    have HCUT := Lib.hid hcut
    have HNO := Lib.hid hno
    have HDL := Lib.hid hdl
    have HML := Lib.hid hml
    have HO := Lib.hid hO
    have hPe := hP
    have HP := Lib.hid hPe
    rw [hP]
    rw [hP] at hO
    clear hcut hno hdl hml hP hPe
    have b0 : (0 : Int) ≤ (f : Int) := by omega
    have b1 : (f : Int) ≤ (k : Int) := by omega
    by_cases hlt : k < s.size
    · have hch : s[k] = l[k]?.getD 0 := str_at HL.out hlt
      have HCH := Lib.hid hch
      clear hch
      have b2 : (k : Int) < (s.size : Int) := by omega
      have b3 : (k : Int) ≤ (s.size : Int) := by omega
      by_cases heq : l[k]?.getD 0 = c
      · have g1 : (((s[k]).toNat : Int) == (c.toNat : Int)) = true := by rw [HCH.out, heq]; simp
        have hx := cut_take (by rw [← HSZ.out]; exact hlt) hfk heq HNO.out
        have HX := Lib.hid hx
        clear hx heq
        go_wp2_with (at_builtin; refine wpList_append_V rfl (.tmp 19) (.tmp 24) 102 9 16 (.string ⟨#[]⟩) Tryz.underlying102 Tryz.infoStr rfl (by omega) rfl wr (.string (s.extract f k)) rfl rfl rfl hO HML.out hbs ?_; intro v' w4 hown hgr hbe)
        refine ⟨⟨k + 1, k + 1, dn ++ [(l.drop f).take (k - f)], ⟨by omega, Nat.le_refl _⟩, ⟨by go_num, by go_num⟩, ?_, hbr.trans (hbe.mono (Nat.le_refl _)), by rw [HCUT.out, HX.out, List.append_assoc]; rfl, by simp, by rw [List.length_append]; have := HDL.out; simp; omega⟩, by simp [intOf]; omega⟩
        rw [extract_str HL.out hfk (Nat.le_of_lt hlt)] at hown
        rw [List.map_append]
        exact hown
      · have g1 : (((s[k]).toNat : Int) == (c.toNat : Int)) = false := by
          rw [HCH.out, beq_eq_false_iff_ne]
          intro e
          exact heq (UInt8.toNat_inj.1 (Int.ofNat_inj.1 e))
        have hx := cut_more (by rw [← HSZ.out]; exact hlt) hfk heq HNO.out
        have HX := Lib.hid hx
        clear hx heq
        go_wp2_with fail
        exact ⟨⟨k + 1, f, dn, ⟨by omega, by omega⟩, ⟨by go_num, rfl⟩, by rw [← HP.out]; exact HO.out, hbr, HCUT.out, HX.out, HDL.out⟩, by simp [intOf]; omega⟩
    · obtain rfl : k = s.size := by omega
      have b2 : (f : Int) ≤ (s.size : Int) := by omega
      have hx := cut_last (by rw [← HSZ.out]; exact HNO.out)
      have HX := Lib.hid hx
      clear hx
      go_wp2_with (at_builtin; refine wpList_append_V rfl (.tmp 28) (.tmp 32) 102 9 16 (.string ⟨#[]⟩) Tryz.underlying102 Tryz.infoStr rfl (by omega) rfl wr (.string (s.extract f s.size)) rfl rfl rfl hO HML.out hbs ?_; intro v' w4 hown hgr hbe)
      go_ret
      refine ⟨_, rfl, ?_, hbr.trans (hbe.mono (Nat.le_refl _))⟩
      rw [HCUT.out, HX.out, List.map_append]
      rw [extract_str HL.out hfk (Nat.le_refl _), HSZ.out, List.take_of_length_le (by simp)] at hown
      exact hown
end Go.Proofs.YtaccaebdmndkiaaGreatDoor
