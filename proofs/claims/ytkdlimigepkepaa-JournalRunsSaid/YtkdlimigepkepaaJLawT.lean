/- JournalTorn: plain law: what a log is after records were added and the power failed. No conditions. -/
import Derived.Test.YtkdlimigepkepaaJLawP
namespace Go.Proofs.Ytkdlimigepkepaa
open Go.RowKit
set_option linter.unusedVariables false

structure Inv (L : Lg) (kept : List (List UInt8)) : Prop where
  len : kept.length ≤ 400
  small : ∀ p ∈ kept, p.length ≤ 300
  data : ∃ t q : List UInt8, q.length ≤ 300 ∧ L.st.data = recs 0 kept ++ t ∧ t <+: formOf (kept.length + 1) q ∧ t.length < 10 + q.length ∧ (L.down = false → t = [])
  count : L.count = kept.length
  power : -1 ≤ L.st.power

theorem endOf_small {ps : List (List UInt8)} (h : ∀ p ∈ ps, p.length ≤ 300) : endOf ps ≤ 310 * ps.length := by
  induction ps with
  | nil => simp [endOf]
  | cons p r ih =>
    have h1 := ih (fun q hq => h q (List.mem_cons_of_mem _ hq))
    have h2 := h p List.mem_cons_self
    simp only [endOf, List.length_cons]; omega

theorem Inv.fits {L : Lg} {kept : List (List UInt8)} (h : Inv L kept) : Fits kept := ⟨by have := h.len; omega, fun p hp => by have := h.small p hp; omega⟩
theorem Inv.dlen {L : Lg} {kept : List (List UInt8)} (h : Inv L kept) : L.st.data.length ≤ 124310 := by
  obtain ⟨t, q, h1, h2, h3, h4, _⟩ := h.data
  rw [h2, List.length_append, recs_length]
  have := endOf_small h.small
  have := h.len
  omega
theorem Inv.scan {L : Lg} {kept : List (List UInt8)} (h : Inv L kept) : scanOf L.st.data = kept := by
  obtain ⟨t, q, h1, h2, h3, h4, _⟩ := h.data
  rw [h2]
  exact scan_torn h.fits (by omega) h3 h4
theorem inv_zero : Inv zLg [] := ⟨by simp, by simp, ⟨[], [], by simp, rfl, List.nil_prefix, by simp, fun _ => rfl⟩, rfl, by decide⟩
theorem Inv.right {L : Lg} {kept : List (List UInt8)} (h : Inv L kept) : rightB L = true := by
  have hd := h.dlen
  have hp := h.power
  unfold rightB
  rw [h.scan, h.count]
  obtain ⟨t, q, h1, h2, h3, h4, h5⟩ := h.data
  simp only [validB, Bool.and_eq_true, decide_eq_true_eq, Bool.or_eq_true, true_and]
  refine ⟨⟨by omega, hp⟩, ?_⟩
  cases hd : L.down with
  | true => exact .inl rfl
  | false =>
    right
    rw [h2, h5 hd, List.append_nil, recs_length]
theorem Inv.restore {L : Lg} {kept : List (List UInt8)} (h : Inv L kept) {p : Int} (hp : -1 ≤ p) : restoreS L p = (⟨L.st.data, p⟩, 0) := by
  unfold restoreS
  rw [h.right, if_neg (by simp; omega)]
theorem Inv.restore_bad {L : Lg} {kept : List (List UInt8)} (h : Inv L kept) {p : Int} (hp : p < -1) : restoreS L p = (zSt, 2) := by
  unfold restoreS
  rw [if_pos (.inr hp)]

theorem Inv.openIt {L : Lg} {kept : List (List UInt8)} (h : Inv L kept) {p : Int} (hp : -1 ≤ p) :
    (∃ p', openS ⟨L.st.data, p⟩ = (⟨⟨recs 0 kept, p'⟩, kept.length, false⟩, kept, 0) ∧ Inv ⟨⟨recs 0 kept, p'⟩, kept.length, false⟩ kept ∧ p' ≤ p) ∨
    (p = 0 ∧ L.down = true ∧ openS ⟨L.st.data, p⟩ = (zLg, [], 370)) := by
  have hdl := h.dlen
  obtain ⟨t, q, h1, h2, h3, h4, h5⟩ := h.data
  have hv : validB L.st.data.length p = true := by simp [validB]; omega
  have hrl : (recs 0 kept).length = endOf kept := recs_length _ _
  have hdd : L.st.data.length = endOf kept + t.length := by rw [h2, List.length_append, hrl]
  have hinv : ∀ p', -1 ≤ p' → Inv ⟨⟨recs 0 kept, p'⟩, kept.length, false⟩ kept := fun p' hp' =>
    ⟨h.len, h.small, ⟨[], [], by simp, by simp, List.nil_prefix, by simp, fun _ => rfl⟩, rfl, hp'⟩
  unfold openS
  rw [if_neg (by simp only; rw [hv]; simp)]
  simp only [h.scan]
  by_cases ht : t.length = 0
  · have ht' : t = [] := List.eq_nil_of_length_eq_zero ht
    have hd' : L.st.data = recs 0 kept := by rw [h2, ht', List.append_nil]
    have hc : cutS ⟨L.st.data, p⟩ (endOf kept) = (⟨L.st.data, p⟩, 0) := by
      unfold cutS
      simp only
      rw [if_neg (by rw [hv]; simp; omega), if_pos (by omega)]
    left
    refine ⟨p, ?_, hinv p hp, Int.le_refl _⟩
    rw [hc]
    simp [hd']
  · by_cases hp0 : p = 0
    · right
      have hc : cutS ⟨L.st.data, p⟩ (endOf kept) = (zSt, 370) := by
        unfold cutS
        simp only
        rw [if_neg (by rw [hv]; simp; omega), if_neg (by omega), if_pos hp0]
      refine ⟨hp0, ?_, ?_⟩
      · cases hd : L.down with
        | true => rfl
        | false => exact absurd (by rw [h5 hd]; rfl) ht
      · rw [hc]; simp
    · left
      have hc : cutS ⟨L.st.data, p⟩ (endOf kept) = (⟨recs 0 kept, if 0 < p then p - 1 else p⟩, 0) := by
        unfold cutS
        simp only
        rw [if_neg (by rw [hv]; simp; omega), if_neg (by omega), if_neg hp0]
        rw [show ((endOf kept : Nat) : Int).toNat = endOf kept by omega, h2, ← hrl]
        simp
      refine ⟨if 0 < p then p - 1 else p, ?_, hinv _ (by split <;> omega), by split <;> omega⟩
      rw [hc]
      simp

theorem Inv.addIt {L : Lg} {kept : List (List UInt8)} (h : Inv L kept) (hdn : L.down = false) (hk : kept.length < 400) {q : List UInt8} (hq : q.length ≤ 300) :
    (∃ p', addS L q = (⟨⟨recs 0 (kept ++ [q]), p'⟩, ((kept ++ [q]).length : Nat), false⟩, 0) ∧ Inv ⟨⟨recs 0 (kept ++ [q]), p'⟩, ((kept ++ [q]).length : Nat), false⟩ (kept ++ [q]) ∧ p' ≤ L.st.power) ∨
    (∃ d', addS L q = (⟨⟨d', 0⟩, kept.length, true⟩, 370) ∧ Inv ⟨⟨d', 0⟩, kept.length, true⟩ kept) := by
  have hdl := h.dlen
  have hpw := h.power
  obtain ⟨t, q0, h1, h2, h3, h4, h5⟩ := h.data
  have ht := h5 hdn
  subst ht
  rw [List.append_nil] at h2
  have hfl : (formOf (kept.length + 1) q).length = 10 + q.length := formOf_length _ _
  have hcnt : (L.count + 1).toNat = kept.length + 1 := by rw [h.count]; omega
  have hv : validB L.st.data.length L.st.power = true := by simp [validB]; omega
  have hok : ∀ p', -1 ≤ p' → Inv ⟨⟨recs 0 (kept ++ [q]), p'⟩, ((kept ++ [q]).length : Nat), false⟩ (kept ++ [q]) := fun p' hp' =>
    ⟨by simp; omega, fun p hp => by
      rcases List.mem_append.1 hp with hp | hp
      · exact h.small p hp
      · simp only [List.mem_singleton] at hp; rw [hp]; exact hq, ⟨[], [], by simp, by simp, List.nil_prefix, by simp, fun _ => rfl⟩, rfl, hp'⟩
  have hcut : ∀ n, n < 10 + q.length → Inv ⟨⟨recs 0 kept ++ (formOf (kept.length + 1) q).take n, 0⟩, kept.length, true⟩ kept := fun n hn =>
    ⟨h.len, h.small, ⟨(formOf (kept.length + 1) q).take n, q, hq, rfl, List.take_prefix _ _, by simp; omega, fun hx => by cases hx⟩, rfl, by simp⟩
  have hadd : addS L q = if (writeS L.st (formOf (kept.length + 1) q)).2 = 0 then (⟨(writeS L.st (formOf (kept.length + 1) q)).1, L.count + 1, false⟩, 0)
      else if (writeS L.st (formOf (kept.length + 1) q)).2 = 370 then (⟨(writeS L.st (formOf (kept.length + 1) q)).1, L.count, true⟩, 370) else (zLg, (writeS L.st (formOf (kept.length + 1) q)).2) := by
    unfold addS
    rw [if_neg (by rw [h.right]; simp; omega), if_neg (by rw [hdn]; simp), if_neg (by rw [h.count]; omega), hcnt]
  have hwr : writeS L.st (formOf (kept.length + 1) q) = if L.st.power < 0 then (⟨recs 0 (kept ++ [q]), L.st.power⟩, 0) else if L.st.power < (10 + q.length : Nat) then (⟨recs 0 kept ++ (formOf (kept.length + 1) q).take L.st.power.toNat, 0⟩, 370) else (⟨recs 0 (kept ++ [q]), L.st.power - (10 + q.length : Nat)⟩, 0) := by
    unfold writeS
    rw [if_neg (by rw [hv]; simp), if_neg (by rw [hfl]; omega), hfl, recs_snoc, ← h2]
  have hlen : ((kept ++ [q]).length : Int) = (kept.length : Int) + 1 := by simp
  by_cases hp : L.st.power < 0
  · left
    rw [if_pos hp] at hwr
    refine ⟨L.st.power, ?_, hok _ hpw, Int.le_refl _⟩
    rw [hadd, hwr, h.count, hlen]; simp
  · rw [if_neg hp] at hwr
    by_cases hp2 : L.st.power < (10 + q.length : Nat)
    · right
      rw [if_pos hp2] at hwr
      refine ⟨recs 0 kept ++ (formOf (kept.length + 1) q).take L.st.power.toNat, ?_, hcut _ (by omega)⟩
      rw [hadd, hwr, h.count]; simp
    · left
      rw [if_neg hp2] at hwr
      refine ⟨L.st.power - (10 + q.length : Nat), ?_, hok _ (by omega), by omega⟩
      rw [hadd, hwr, h.count, hlen]; simp
end Go.Proofs.Ytkdlimigepkepaa
