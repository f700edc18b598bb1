/- The reference of layer 15: in. No conditions beyond the readings of the arguments. -/
import Derived.Test.YthbnbjigmgoldaaOCycle
namespace Go.Proofs.Ythbnbjigmgoldaa
open Go.RowKit
set_option linter.unusedVariables false

/-- Where a name stands in a list, or -1. -/
def inI (l : List Str) (s : Str) : Int := if l.contains s then (l.idxOf s : Int) else -1
theorem inI_neg {l : List Str} {s : Str} (h : ∀ x ∈ l, x ≠ s) : inI l s = -1 := by
  unfold inI
  rw [if_neg (fun hc => h s (List.contains_iff_mem.1 hc) rfl)]
theorem inI_at {l : List Str} {s : Str} {k : Nat} (hk : k < l.length) (he : l[k]?.getD [] = s) (h : ∀ x ∈ l.take k, x ≠ s) : inI l s = k := by
  have hs : l[k] = s := by rw [List.getElem?_eq_getElem hk] at he; exact he
  have hm : s ∈ l := hs ▸ List.getElem_mem hk
  unfold inI
  rw [if_pos (List.contains_iff_mem.2 hm)]
  have h1 : l.idxOf s = k := by
    have h2 : l = l.take k ++ l[k] :: l.drop (k + 1) := by rw [← List.drop_eq_getElem_cons hk, List.take_append_drop]
    rw [h2, List.idxOf_append, if_neg (fun hc => h s hc rfl), hs, List.idxOf_cons_self, List.length_take]
    omega
  rw [h1]
set_option maxRecDepth 100000 in
set_option maxHeartbeats 1000000 in
theorem in_any (K : Nat) (v : Value) (l : List Str) (s : Str) (w : World) (hv : Strs K w v l) (hs : s.length ≤ maxLen) :
    Calls Try.prog 34 #[v, S s] w fun e w' => e = .returned (.int .i64 (inI l s)) ∧ w = w' := by
  obtain ⟨va, vcap, rfl, hv1, hv2⟩ := id hv.form
  unfold maxLen at hv2
  go_enter Try.func34, Try.ntmps34
  go_wp2_with fail
  go_loopw [5] (fun i wr => w = wr ∧ ∃ k, k ≤ l.length ∧ i = .int .i64 k ∧ ∀ x ∈ l.take k, x ≠ s) (fun i _ => l.length - (intOf i).toNat)
  case atStart => exact ⟨rfl, 0, Nat.zero_le _, rfl, fun x hx => by simp at hx⟩
  case round =>
    obtain ⟨rfl, k, hk, rfl, hall⟩ := hrel
    by_cases hlt : k < l.length
    · obtain ⟨b, o, cap, he, _, _, hbK, hc⟩ := hv.pos (by omega)
      simp only [Value.slice.injEq, true_and] at he
      obtain ⟨rfl, rfl⟩ := he
      have c0 := hc k hlt
      have hts : l.take (k + 1) = l.take k ++ [l[k]?.getD []] := by rw [List.take_succ_eq_append_getElem hlt, List.getElem?_eq_getElem hlt]; rfl
      have hxl : (l[k]?.getD []).length ≤ maxLen := hv.len
      have HAT : Hid (∀ h : l[k]?.getD [] = s, inI l s = k) := Lib.hid fun h => inI_at hlt h hall
      obtain ⟨x, hx⟩ : ∃ x, l[k]?.getD [] = x := ⟨_, rfl⟩
      rw [hx] at c0 hts hxl HAT
      have HTS := Lib.hid hts
      have HALL := Lib.hid hall
      obtain ⟨ct, hct⟩ : ∃ ct, (x == s) = ct := ⟨_, rfl⟩
      have HCT := Lib.hid hct
      clear hx hts hc hall
      cases ct with
      | true =>
        go_wp2_with fail
        go_ret
        exact ⟨by rw [HAT.out (by simpa using HCT.out)]; rfl, rfl⟩
      | false =>
        have hall2 : ∀ y ∈ l.take (k + 1), y ≠ s := by
          rw [HTS.out]
          intro y hy
          rcases List.mem_append.1 hy with hy | hy
          · exact HALL.out y hy
          · rw [List.mem_singleton.1 hy]; exact beq_eq_false_iff_ne.1 HCT.out
        go_wp2_with fail
        exact ⟨⟨by first | trivial | rfl, k + 1, by omega, by go_num, hall2⟩, by simp [intOf]; omega⟩
    · obtain rfl : k = l.length := by omega
      rw [List.take_length] at hall
      have HE := Lib.hid (inI_neg hall)
      go_wp2_with fail
      go_ret
      exact ⟨by rw [HE.out]; rfl, rfl⟩
end Go.Proofs.Ythbnbjigmgoldaa
