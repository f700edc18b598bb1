/- JournalRot: plain law. No conditions. -/
import Derived.Test.YtkdlimigepkepaaJLawP
namespace Go.Proofs.Ytkdlimigepkepaa
open Go.RowKit
set_option linter.unusedVariables false

theorem chkFrom_set (l : List UInt8) : ∀ (p i : Nat) (b : UInt8), i < l.length → chkFrom p (l.set i b) + (p + i) * (l[i]?.getD 0).toNat = chkFrom p l + (p + i) * b.toNat := by
  induction l with
  | nil => intro p i b h; simp at h
  | cons x r ih =>
    intro p i b h
    cases i with
    | zero => simp [chkFrom]; omega
    | succ i =>
      have h1 := ih (p + 1) i b (by simpa using h)
      simp only [List.set_cons_succ, chkFrom, List.getElem?_cons_succ]
      rw [show p + (i + 1) = p + 1 + i by omega]
      omega

theorem formHead_at (k : Nat) (p : List UInt8) (i : Nat) (h : i < p.length) : (formHead k p)[6 + i]?.getD 0 = p[i]?.getD 0 := by
  unfold formHead
  rw [List.getElem?_append_right (by simp [le_length])]
  simp [le_length]
theorem formHead_set (k : Nat) (p : List UInt8) (i : Nat) (b : UInt8) : formHead k (p.set i b) = (formHead k p).set (6 + i) b := by
  unfold formHead
  rw [List.length_set, List.set_append_right _ _ (by simp [le_length])]
  simp [le_length]

theorem rot_num (A C m x y : Nat) (hs : A + m * x = C + m * y) (hc : A % 4294967296 = C % 4294967296) (hx : x < 256) (hy : y < 256) (hne : x ≠ y) (hm : m ≤ 5000) (hm0 : 0 < m) : False := by
  have k1 : m * x ≤ 5000 * 255 := Nat.mul_le_mul hm (by omega)
  have k2 : m * y ≤ 5000 * 255 := Nat.mul_le_mul hm (by omega)
  have k3 : m * x ≠ m * y := fun e => hne (Nat.eq_of_mul_eq_mul_left hm0 e)
  generalize m * x = X at *
  generalize m * y = Y at *
  omega

/-- If a byte of a record is changed, but for its length, no record of this number stands there. -/
theorem rot_form {k n : Nat} {p q : List UInt8} {b : UInt8} {r : List UInt8} (hp : p.length ≤ 4096) (hq : q.length ≤ 4096) (hn : n < 10 + p.length) (h4 : n ≠ 4) (h5 : n ≠ 5)
    (hb : (formOf k p)[n]?.getD 0 ≠ b) : ¬ formOf k q <+: (formOf k p).set n b ++ r := by
  intro h
  have hlen : ((formOf k p).set n b).length = 10 + p.length := by rw [List.length_set, formOf_length]
  -- the length's two bytes
  have hx : ∀ x : List UInt8, ((formOf k x).drop 4).take 2 = le 2 x.length := fun x => by
    rw [formOf_eq, List.drop_append_of_le_length (by simp [le_length]), List.drop_of_length_le (by simp [le_length])]
    simp only [List.nil_append]
    rw [List.take_append_of_le_length (by simp [le_length]), List.take_of_length_le (by simp [le_length])]
  have hat : ∀ i, i < 10 + p.length → i < 10 + q.length → (formOf k q)[i]? = ((formOf k p).set n b)[i]? := fun i hi hi2 => by
    obtain ⟨s, hs⟩ := h
    have h1 : (formOf k q ++ s)[i]? = ((formOf k p).set n b ++ r)[i]? := congrArg (fun l => l[i]?) hs
    rw [List.getElem?_append_left (by rw [formOf_length]; exact hi2), List.getElem?_append_left (by rw [hlen]; exact hi)] at h1
    exact h1
  have hlq : q.length = p.length := by
    have e : ((formOf k q).drop 4).take 2 = ((formOf k p).drop 4).take 2 := by
      apply List.ext_getElem?
      intro i
      by_cases hi : i < 2
      · rw [List.getElem?_take_of_lt hi, List.getElem?_take_of_lt hi, List.getElem?_drop, List.getElem?_drop, hat (4 + i) (by omega) (by omega), List.getElem?_set_ne (by omega)]
      · rw [List.getElem?_eq_none (by simp; omega), List.getElem?_eq_none (by simp; omega)]
    rw [hx, hx] at e
    exact le_inj (k := 2) (by omega) (by omega) e
  have heq : formOf k q = (formOf k p).set n b := by
    apply List.ext_getElem?
    intro i
    by_cases hi : i < 10 + p.length
    · exact hat i hi (by omega)
    · rw [List.getElem?_eq_none (by rw [formOf_length]; omega), List.getElem?_eq_none (by rw [hlen]; omega)]
  have hnb : (formOf k q)[n]?.getD 0 = b := by
    rw [heq, List.getElem?_set_self (by rw [formOf_length]; omega)]; rfl
  have hhl : ∀ x, (formHead k x).length = 6 + x.length := fun x => formHead_length k x
  have hhead : ∀ i, i < 6 + p.length → (formHead k q)[i]? = ((formHead k p).set n b)[i]? := fun i hi => by
    have h1 := congrArg (fun l => l[i]?) heq
    simp only [formOf] at h1
    rw [List.getElem?_append_left (by rw [hhl]; omega)] at h1
    rw [h1]
    by_cases hni : n = i
    · subst hni
      rw [List.getElem?_set_self (by simp [hhl]; omega), List.getElem?_set_self (by rw [hhl]; omega)]
    · rw [List.getElem?_set_ne hni, List.getElem?_set_ne hni, List.getElem?_append_left (by rw [hhl]; omega)]
  by_cases h6 : n < 6
  · -- the number
    have e1 : ∀ x : List UInt8, (formOf k x)[n]? = (le 4 k)[n]? := fun x => by
      rw [formOf_eq, List.getElem?_append_left (by simp [le_length]; omega)]
    rw [e1 q, ← e1 p] at hnb
    exact hb hnb
  · by_cases h7 : n < 6 + p.length
    · -- the payload
      obtain ⟨i, rfl⟩ : ∃ i, n = 6 + i := ⟨n - 6, by omega⟩
      have hqp : q = p.set i b := by
        apply List.ext_getElem?
        intro j
        by_cases hj : j < p.length
        · have h1 := hhead (6 + j) (by omega)
          rw [← formHead_set] at h1
          have g : ∀ x : List UInt8, x.length = p.length → (formHead k x)[6 + j]? = x[j]? := fun x hx => by
            unfold formHead
            rw [List.getElem?_append_right (by simp [le_length])]
            simp [le_length]
          rw [g q hlq, g (p.set i b) (by simp)] at h1
          exact h1
        · rw [List.getElem?_eq_none (by omega), List.getElem?_eq_none (by simp; omega)]
      have htail : le 4 (chk (formHead k q) % 4294967296) = le 4 (chk (formHead k p) % 4294967296) := by
        have h1 := congrArg (fun l => l.drop (6 + p.length)) heq
        simp only [formOf] at h1
        rw [List.drop_append_of_le_length (by rw [hhl]; omega), List.drop_of_length_le (by rw [hhl]; omega), List.set_append_left _ _ (by rw [hhl]; omega),
          List.drop_append_of_le_length (by rw [List.length_set, hhl]; omega), List.drop_of_length_le (by rw [List.length_set, hhl]; omega)] at h1
        simpa using h1
      have hc := le_inj (k := 4) (Nat.mod_lt _ (by omega)) (Nat.mod_lt _ (by omega)) htail
      have hs := chkFrom_set (formHead k p) 1 (6 + i) b (by rw [hhl]; omega)
      rw [← formHead_set, ← hqp] at hs
      unfold chk at hc
      have hne : (formHead k p)[6 + i]?.getD 0 ≠ b := by
        intro he
        apply hb
        unfold formOf
        rw [List.getElem?_append_left (by rw [hhl]; omega)]
        exact he
      have h1 := ((formHead k p)[6 + i]?.getD 0).toNat_lt
      have h2 := b.toNat_lt
      have h3 : ((formHead k p)[6 + i]?.getD 0).toNat ≠ b.toNat := fun e => hne (UInt8.toNat.inj e)
      exact rot_num _ _ _ _ _ hs hc h1 h2 h3 (by omega) (by omega)
    · -- the checksum
      have hqp : q = p := by
        apply List.ext_getElem?
        intro j
        by_cases hj : j < p.length
        · have h1 := hhead (6 + j) (by omega)
          rw [List.getElem?_set_ne (by omega)] at h1
          have g : ∀ x : List UInt8, x.length = p.length → (formHead k x)[6 + j]? = x[j]? := fun x hx => by
            unfold formHead
            rw [List.getElem?_append_right (by simp [le_length])]
            simp [le_length]
          rw [g q hlq, g p rfl] at h1
          exact h1
        · rw [List.getElem?_eq_none (by omega), List.getElem?_eq_none (by omega)]
      subst hqp
      exact hb hnb

theorem rot_law {ps : List (List UInt8)} (hf : Fits ps) (k n : Nat) (hk : k < ps.length) (b : UInt8) (hn : n < 10 + (ps[k]?.getD []).length) (h4 : n ≠ 4) (h5 : n ≠ 5)
    (hb : (recs 0 ps)[endOf (ps.take k) + n]?.getD 0 ≠ b) : scanOf ((recs 0 ps).set (endOf (ps.take k) + n) b) = ps.take k := by
  obtain ⟨p, hp⟩ : ∃ p, ps[k]?.getD [] = p := ⟨_, rfl⟩
  rw [hp] at hn
  have hd : ps.drop k = p :: ps.drop (k + 1) := by rw [← hp]; simp [hk]
  have htl : (ps.take k).length = k := by simp; omega
  have hsp : recs 0 ps = recs 0 (ps.take k) ++ (formOf (k + 1) p ++ recs (k + 1) (ps.drop (k + 1))) := by
    have h := recs_append (ps.take k) (ps.drop k) 0
    rw [List.take_append_drop, htl, hd] at h
    simpa [recs] using h
  have hlk : (recs 0 (ps.take k)).length = endOf (ps.take k) := recs_length _ _
  have hpl : p.length ≤ 4096 := by rw [← hp]; exact hf.2 _ (by simp [hk])
  have hfk : Fits (ps.take k) := ⟨by have := hf.1; simp; omega, fun p hp => hf.2 p (List.mem_of_mem_take hp)⟩
  rw [hsp] at hb ⊢
  rw [List.getElem?_append_right (by omega), hlk, Nat.add_sub_cancel_left, List.getElem?_append_left (by rw [formOf_length]; exact hn)] at hb
  rw [List.set_append_right _ _ (by omega), hlk, Nat.add_sub_cancel_left, List.set_append_left _ _ (by rw [formOf_length]; exact hn)]
  refine scan_iff.2 ⟨hfk, _, rfl, fun q _ hq => ?_⟩
  rw [htl]
  exact rot_form hpl hq hn h4 h5 hb
end Go.Proofs.Ytkdlimigepkepaa
