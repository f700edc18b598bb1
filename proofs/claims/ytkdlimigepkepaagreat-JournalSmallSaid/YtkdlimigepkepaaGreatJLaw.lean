/- What a store of package journal holds: records, one behind the other. Plain Lean; no conditions. -/
import Derived.Test.YtkdlimigepkepaaGreatJSpec
namespace Go.Proofs.YtkdlimigepkepaaGreat
open Go.RowKit
set_option linter.unusedVariables false

theorem leN_append (a b : List UInt8) : leN (a ++ b) = leN a + 256 ^ a.length * leN b := by
  induction a with
  | nil => simp [leN]
  | cons x a ih =>
    simp only [List.cons_append, leN, ih, List.length_cons, Nat.pow_succ]
    rw [Nat.mul_add]
    have : 256 * (256 ^ a.length * leN b) = 256 ^ a.length * 256 * leN b := by
      rw [← Nat.mul_assoc, Nat.mul_comm 256 (256 ^ a.length)]
    omega
theorem leN_le (k : Nat) : ∀ n, leN (le k n) = n % 256 ^ k := by
  induction k with
  | zero => intro n; simp [le, leN, Nat.mod_one]
  | succ k ih =>
    intro n
    simp only [le, leN, ih]
    have e8 : (2 : Nat) ^ 8 = 256 := rfl
    have ek : (256 : Nat) ^ (k + 1) = 256 * 256 ^ k := Nat.pow_succ'
    rw [UInt8.toNat_ofNat', e8, ek, Nat.mod_mul]
theorem le_leN (x : List UInt8) : le x.length (leN x) = x := by
  induction x with
  | nil => rfl
  | cons b r ih =>
    have hb := b.toNat_lt
    simp only [List.length_cons, le, leN]
    congr 1
    · apply UInt8.toNat.inj
      rw [UInt8.toNat_ofNat']; omega
    · rw [show (b.toNat + 256 * leN r) / 256 = leN r by omega]
      exact ih
theorem le_eq {k n : Nat} {x : List UInt8} (hk : x.length = k) (h : leN x = n) : le k n = x := by
  subst hk; subst h; exact le_leN x
theorem le_inj {k n m : Nat} (hn : n < 256 ^ k) (hm : m < 256 ^ k) (h : le k n = le k m) : n = m := by
  have := congrArg leN h
  rwa [leN_le, leN_le, Nat.mod_eq_of_lt hn, Nat.mod_eq_of_lt hm] at this

theorem formHead_length (n : Nat) (p : List UInt8) : (formHead n p).length = 6 + p.length := by simp [formHead, le_length]; omega
theorem formOf_length (n : Nat) (p : List UInt8) : (formOf n p).length = 10 + p.length := by simp [formOf, formHead_length, le_length]; omega
theorem formOf_eq (n : Nat) (p : List UInt8) : formOf n p = le 4 n ++ (le 2 p.length ++ (p ++ le 4 (chk (formHead n p) % 4294967296))) := by simp [formOf, formHead]

/-- The next record is there exactly if the bytes of a record of that number stand there. -/
theorem nextRec_iff {l : List UInt8} {c e : Nat} {p : List UInt8} : nextRec l c e = some p ↔ c < 65536 ∧ p.length ≤ 4096 ∧ formOf (c + 1) p <+: l.drop e := by
  constructor
  · intro h
    unfold nextRec at h
    obtain ⟨D, hD⟩ : ∃ D, l.drop e = D := ⟨_, rfl⟩
    have d4 : l.drop (e + 4) = D.drop 4 := by rw [← hD, List.drop_drop]
    have d6 : l.drop (e + 6) = D.drop 6 := by rw [← hD, List.drop_drop]
    have hl : D.length = l.length - e := by rw [← hD]; simp
    rw [d4, d6, hD] at h
    obtain ⟨s, hs⟩ : ∃ s, leN ((D.drop 4).take 2) = s := ⟨_, rfl⟩
    rw [hs] at h
    have ds : l.drop (e + 6 + s) = D.drop (6 + s) := by rw [← hD, List.drop_drop]; congr 1; omega
    rw [ds] at h
    split at h; · cases h
    rename_i h1
    split at h; · cases h
    rename_i h2
    split at h; · cases h
    rename_i h3
    split at h; · cases h
    rename_i h4
    split at h; · cases h
    rename_i h5
    split at h; · cases h
    rename_i h6
    split at h; · cases h
    rename_i h7
    split at h; · cases h
    rename_i h8
    simp only [Option.some.injEq] at h
    simp only [ne_eq, Decidable.not_not] at h3 h8
    have hpl : p.length = s := by rw [← h]; simp; omega
    refine ⟨by omega, by omega, ?_⟩
    rw [hD]
    have e1 : le 4 (c + 1) = D.take 4 := le_eq (by simp; omega) h3
    have e2 : le 2 s = (D.drop 4).take 2 := le_eq (by simp; omega) hs
    have hh : formHead (c + 1) p = D.take (6 + s) := by
      unfold formHead
      rw [hpl, e1, e2, ← h, List.append_assoc]
      rw [show 6 + s = 4 + (2 + s) by omega, List.take_add, List.take_add, List.drop_drop]
    have e3 : le 4 (chk (formHead (c + 1) p) % 4294967296) = (D.drop (6 + s)).take 4 := le_eq (by simp; omega) (by rw [h8, hh])
    unfold formOf
    rw [e3, hh, ← List.take_add]
    exact List.take_prefix _ _
  · rintro ⟨h1, h2, h⟩
    obtain ⟨r, hr⟩ := h
    obtain ⟨D, hD⟩ : ∃ D, l.drop e = D := ⟨_, rfl⟩
    have d4 : l.drop (e + 4) = D.drop 4 := by rw [← hD, List.drop_drop]
    have d6 : l.drop (e + 6) = D.drop 6 := by rw [← hD, List.drop_drop]
    have hl : D.length = l.length - e := by rw [← hD]; simp
    rw [hD] at hr
    have hlen : D.length = 10 + p.length + r.length := by rw [← hr]; simp [formOf_length]
    have t4 : D.take 4 = le 4 (c + 1) := by
      rw [← hr, formOf_eq, List.append_assoc, List.take_append_of_le_length (by simp [le_length]), List.take_of_length_le (by simp [le_length])]
    have k4 : D.drop 4 = le 2 p.length ++ (p ++ (le 4 (chk (formHead (c + 1) p) % 4294967296) ++ r)) := by
      rw [← hr, formOf_eq, List.append_assoc, List.drop_append_of_le_length (by simp [le_length]), List.drop_of_length_le (by simp [le_length])]
      simp
    have t2 : (D.drop 4).take 2 = le 2 p.length := by
      rw [k4, List.take_append_of_le_length (by simp [le_length]), List.take_of_length_le (by simp [le_length])]
    have k6 : D.drop 6 = p ++ (le 4 (chk (formHead (c + 1) p) % 4294967296) ++ r) := by
      rw [show 6 = 4 + 2 by rfl, ← List.drop_drop, k4, List.drop_append_of_le_length (by simp [le_length]), List.drop_of_length_le (by simp [le_length])]
      simp
    have hs : leN ((D.drop 4).take 2) = p.length := by rw [t2, leN_le, Nat.mod_eq_of_lt (by omega)]
    have ds : l.drop (e + 6 + p.length) = D.drop (6 + p.length) := by rw [← hD, List.drop_drop]; congr 1; omega
    have k7 : D.drop (6 + p.length) = le 4 (chk (formHead (c + 1) p) % 4294967296) ++ r := by
      rw [← List.drop_drop, k6]; simp
    have t6 : D.take (6 + p.length) = formHead (c + 1) p := by
      rw [← hr, formOf, List.append_assoc, List.take_append_of_le_length (by simp [formHead_length]), List.take_of_length_le (by simp [formHead_length])]
    unfold nextRec
    rw [d4, d6, hD, hs, ds]
    rw [if_neg (by omega), if_neg (by omega), if_neg (by rw [t4, leN_le, Nat.mod_eq_of_lt (by omega)]; simp), if_neg (by omega), if_neg (by omega), if_neg (by omega), if_neg (by omega)]
    rw [if_neg (by
      rw [k7, t6, List.take_append_of_le_length (by simp [le_length]), List.take_of_length_le (by simp [le_length]), leN_le, Nat.mod_eq_of_lt (by omega)]; simp)]
    rw [k6]; simp

/-- The bytes of records from number k + 1 on. -/
def recs : Nat → List (List UInt8) → List UInt8
  | _, [] => []
  | k, p :: r => formOf (k + 1) p ++ recs (k + 1) r
theorem recs_length (ps : List (List UInt8)) : ∀ k, (recs k ps).length = endOf ps := by
  induction ps with
  | nil => intro k; rfl
  | cons p r ih => intro k; simp [recs, endOf, ih, formOf_length]
theorem recs_append (a b : List (List UInt8)) : ∀ k, recs k (a ++ b) = recs k a ++ recs (k + a.length) b := by
  induction a with
  | nil => intro k; simp [recs]
  | cons p r ih => intro k; simp [recs, ih, Nat.add_assoc, Nat.add_comm 1]
theorem recs_snoc (a : List (List UInt8)) (p : List UInt8) : recs 0 (a ++ [p]) = recs 0 a ++ formOf (a.length + 1) p := by
  rw [recs_append]; simp [recs]

/-- Payloads that a log can hold. -/
def Fits (ps : List (List UInt8)) : Prop := ps.length ≤ 65536 ∧ ∀ p ∈ ps, p.length ≤ 4096

theorem readsTo_iff {l : List UInt8} {ps : List (List UInt8)} : ReadsTo l ps ↔ Fits ps ∧ recs 0 ps <+: l := by
  have key : ∀ n, n ≤ ps.length → ((∀ i, i < n → nextRec l i (endOf (ps.take i)) = some (ps[i]?.getD [])) ↔ (n ≤ 65536 ∧ (∀ i, i < n → (ps[i]?.getD []).length ≤ 4096) ∧ recs 0 (ps.take n) <+: l)) := by
    intro n
    induction n with
    | zero => intro _; simp [recs]
    | succ n ih =>
      intro hn
      have ih := ih (by omega)
      have ht : ps.take (n + 1) = ps.take n ++ [ps[n]?.getD []] := by
        rw [List.take_succ_eq_append_getElem (by omega)]; simp [show n < ps.length by omega]
      have hl : (ps.take n).length = n := by simp; omega
      have hrl : (recs 0 (ps.take n)).length = endOf (ps.take n) := recs_length _ _
      constructor
      · intro h
        obtain ⟨h1, h2, h3⟩ := ih.1 (fun i hi => h i (by omega))
        have hx := nextRec_iff.1 (h n (by omega))
        refine ⟨by omega, fun i hi => ?_, ?_⟩
        · by_cases hin : i < n
          · exact h2 i hin
          · obtain rfl : i = n := by omega
            exact hx.2.1
        · rw [ht, recs_snoc, hl]
          obtain ⟨r, hr⟩ := h3
          have hd : l.drop (endOf (ps.take n)) = r := by rw [← hr, ← hrl]; simp
          rw [hd] at hx
          rw [← hr]
          exact (List.prefix_append_right_inj _).2 hx.2.2
      · rintro ⟨h1, h2, h3⟩ i hi
        rw [ht, recs_snoc, hl] at h3
        by_cases hin : i < n
        · exact ih.2 ⟨by omega, fun i hi => h2 i (by omega), (List.prefix_append _ _).trans h3⟩ i hin
        · obtain rfl : i = n := by omega
          refine nextRec_iff.2 ⟨by omega, h2 i hi, ?_⟩
          obtain ⟨r, hr⟩ := h3
          have hd : l.drop (endOf (ps.take i)) = formOf (i + 1) (ps[i]?.getD []) ++ r := by rw [← hr, ← hrl, List.append_assoc]; simp
          rw [hd]
          exact List.prefix_append _ _
  have h := key ps.length (Nat.le_refl _)
  rw [List.take_length] at h
  unfold ReadsTo
  rw [h]
  unfold Fits
  constructor
  · rintro ⟨h1, h2, h3⟩
    refine ⟨⟨h1, fun p hp => ?_⟩, h3⟩
    obtain ⟨i, hi, rfl⟩ := List.mem_iff_getElem.1 hp
    have := h2 i hi
    simpa [hi] using this
  · rintro ⟨⟨h1, h2⟩, h3⟩
    refine ⟨h1, fun i hi => ?_, h3⟩
    have := h2 (ps[i]) (List.getElem_mem hi)
    simpa [hi] using this

/-- What is read of data. -/
theorem scan_iff {l : List UInt8} {ps : List (List UInt8)} : scanOf l = ps ↔
    Fits ps ∧ ∃ r, l = recs 0 ps ++ r ∧ ∀ p, ps.length < 65536 → p.length ≤ 4096 → ¬ formOf (ps.length + 1) p <+: r := by
  have hrl : (recs 0 ps).length = endOf ps := recs_length _ _
  constructor
  · intro h
    have hs := scanOf_spec l
    rw [h] at hs
    obtain ⟨hf, r, hr⟩ := readsTo_iff.1 hs.1
    refine ⟨hf, r, hr.symm, fun p h1 h2 h3 => ?_⟩
    have hn := hs.2
    have hd : l.drop (endOf ps) = r := by rw [← hr, ← hrl]; simp
    have := nextRec_iff.2 ⟨h1, h2, hd ▸ h3⟩
    rw [hn] at this
    cases this
  · rintro ⟨hf, r, hr, hn⟩
    refine IsScan.unique (scanOf_spec l) ⟨readsTo_iff.2 ⟨hf, r, hr.symm⟩, ?_⟩
    have hd : l.drop (endOf ps) = r := by rw [hr, ← hrl]; simp
    cases h : nextRec l ps.length (endOf ps) with
    | none => rfl
    | some p =>
      obtain ⟨h1, h2, h3⟩ := nextRec_iff.1 h
      rw [hd] at h3
      exact absurd h3 (hn p h1 h2)

/-- No record of a number is the beginning of another one. -/
theorem formOf_free {n : Nat} {p q x : List UInt8} (hp : p.length ≤ 4096) (hq : q.length ≤ 4096) (h1 : formOf n p <+: x) (h2 : formOf n q <+: x) : p = q := by
  have key : ∀ {p x : List UInt8}, formOf n p <+: x → (x.drop 4).take 2 = le 2 p.length ∧ (x.drop 6).take p.length = p := by
    rintro p x ⟨r, rfl⟩
    have k4 : (formOf n p ++ r).drop 4 = le 2 p.length ++ (p ++ (le 4 (chk (formHead n p) % 4294967296) ++ r)) := by
      rw [formOf_eq, List.append_assoc, List.drop_append_of_le_length (by simp [le_length]), List.drop_of_length_le (by simp [le_length])]
      simp
    constructor
    · rw [k4, List.take_append_of_le_length (by simp [le_length]), List.take_of_length_le (by simp [le_length])]
    · rw [show 6 = 4 + 2 by rfl, ← List.drop_drop, k4, List.drop_append_of_le_length (by simp [le_length]), List.drop_of_length_le (by simp [le_length])]
      simp
  obtain ⟨a1, a2⟩ := key h1
  obtain ⟨b1, b2⟩ := key h2
  have hl : p.length = q.length := le_inj (k := 2) (by omega) (by omega) (a1.symm.trans b1)
  rw [← a2, ← b2, hl]

theorem scan_recs {ps : List (List UInt8)} (h : Fits ps) : scanOf (recs 0 ps) = ps :=
  scan_iff.2 ⟨h, [], by simp, fun p _ _ hp => by
    have := hp.length_le
    rw [formOf_length] at this
    simp at this⟩
/-- Records, and a part of the next one. -/
theorem scan_torn {ps : List (List UInt8)} {q t : List UInt8} (h : Fits ps) (hq : q.length ≤ 4096) (ht : t <+: formOf (ps.length + 1) q) (hl : t.length < 10 + q.length) : scanOf (recs 0 ps ++ t) = ps :=
  scan_iff.2 ⟨h, t, rfl, fun p _ hp hpt => by
    have := formOf_free hp hq (hpt.trans ht) (List.prefix_refl _)
    subst this
    have := hpt.length_le
    rw [formOf_length] at this
    omega⟩

/-! ### JournalRead -/
theorem endOf_le {ps : List (List UInt8)} {l : List UInt8} (h : scanOf l = ps) : endOf ps ≤ l.length := by
  obtain ⟨_, r, hr, _⟩ := scan_iff.1 h
  rw [hr, List.length_append, recs_length]; omega
theorem scan_fits {ps : List (List UInt8)} {l : List UInt8} (h : scanOf l = ps) : Fits ps := (scan_iff.1 h).1
theorem scan_again {ps : List (List UInt8)} {l : List UInt8} (h : scanOf l = ps) : scanOf (l.take (endOf ps)) = ps := by
  obtain ⟨hf, r, hr, _⟩ := scan_iff.1 h
  have : l.take (endOf ps) = recs 0 ps := by rw [hr, ← recs_length ps 0]; simp
  rw [this]
  exact scan_recs hf
theorem endOf_take_le (ps : List (List UInt8)) (i : Nat) (h : i < ps.length) : endOf (ps.take i) + 10 + (ps[i]?.getD []).length ≤ endOf ps := by
  have hs : ps = ps.take i ++ (ps[i]?.getD [] :: ps.drop (i + 1)) := by
    have : ps[i]?.getD [] = ps[i] := by simp [h]
    rw [this, List.getElem_cons_drop, List.take_append_drop]
  have := congrArg endOf hs
  rw [endOf_append] at this
  simp only [endOf] at this
  omega
theorem endOf_take_succ (ps : List (List UInt8)) (i : Nat) (h : i < ps.length) : endOf (ps.take (i + 1)) = endOf (ps.take i) + 10 + (ps[i]?.getD []).length := by
  have ht : ps.take (i + 1) = ps.take i ++ [ps[i]?.getD []] := by
    rw [List.take_succ_eq_append_getElem h]; simp [h]
  rw [ht, endOf_snoc]
theorem scan_form {ps : List (List UInt8)} {l : List UInt8} (h : scanOf l = ps) (i : Nat) (hi : i < ps.length) :
    (l.drop (endOf (ps.take i))).take (10 + (ps[i]?.getD []).length) = formOf (i + 1) (ps[i]?.getD []) := by
  have hs := (scanOf_spec l).1
  rw [h] at hs
  obtain ⟨r, hr⟩ := (nextRec_iff.1 (hs i hi)).2.2
  rw [← hr, ← formOf_length (i + 1)]; simp
theorem scan_stop {ps : List (List UInt8)} {l : List UInt8} (h : scanOf l = ps) (s : Nat) (hc : ps.length < 65536) (hs : s ≤ 4096) (hl : endOf ps + s + 10 ≤ l.length) :
    formOf (ps.length + 1) ((l.drop (endOf ps + 6)).take s) ≠ (l.drop (endOf ps)).take (s + 10) := by
  intro he
  obtain ⟨_, r, hr, hn⟩ := scan_iff.1 h
  have hd : l.drop (endOf ps) = r := by rw [hr, ← recs_length ps 0]; simp
  refine hn ((l.drop (endOf ps + 6)).take s) hc (by simp; omega) ?_
  rw [he, hd]
  exact List.take_prefix _ _
end Go.Proofs.YtkdlimigepkepaaGreat
