/- sameStore, store of layer 37. -/
import Derived.Test.YtkdlimigepkepaaGreatJ10
namespace Go.Proofs.YtkdlimigepkepaaGreat
open Go.RowKit
set_option linter.unusedVariables false

set_option maxRecDepth 100000 in
theorem store_any (va : Option Addr) (n cap : Nat) (p : Int) (w : World) :
    Calls Tryz.prog 14 #[.agg #[.slice va n cap, .int .i64 p]] w fun e w' => e = .returned (.agg #[.slice va n cap, .int .i64 p]) ∧ Below w.heap.size w w' := by
  go_enter Tryz.func14, Tryz.ntmps14
  go_wp2_with fail
  refine bodyPost_ret (v := .agg #[.slice va n cap, .int .i64 p]) (by simp [results, Tryz.results14, go_sem]) rfl ⟨rfl, ?_⟩
  exact ((Below.refl _ w).alloc (Nat.le_refl _) _).alloc (by simp) _

set_option maxRecDepth 100000 in
theorem sameStore_any (K : Nat) (v u : Value) (s t : St) (w : World) (hv : Byts K w v s.data) (hu : Byts K w u t.data) (hK : K ≤ w.heap.size) :
    Calls Tryz.prog 22 #[.agg #[v, .int .i64 s.power], .agg #[u, .int .i64 t.power]] w fun e w' => e = .returned (.bool (decide (s.power = t.power) && decide (s.data = t.data))) ∧ Below w.heap.size w w' := by
  obtain ⟨sd, sp⟩ := s
  obtain ⟨td, tp⟩ := t
  simp only at hv hu ⊢
  obtain ⟨va, cv, rfl, _⟩ := id hv
  obtain ⟨ua, cu, rfl, _⟩ := id hu
  have hk : Below w.heap.size w ((w.alloc (Obj.cells #[.slice va sd.length cv, .int .i64 sp] 39)).alloc (Obj.cells #[.slice ua td.length cu, .int .i64 tp] 39)) := ((Below.refl _ w).alloc (Nat.le_refl _) _).alloc (by simp) _
  have s1 := conv_str (hv.below (hk.mono hK) (Nat.le_refl _))
  have s2 := conv_str (hu.below (hk.mono hK) (Nat.le_refl _))
  have HV := Lib.hid hv; have HU := Lib.hid hu
  clear hv hu
  by_cases h : sp = tp
  · have t : (sp == tp) = true := by simp [h]
    have H := Lib.hid h
    clear h
    go_enter Tryz.func22, Tryz.ntmps22
    go_wp2_with fail
    go_ret
    refine ⟨?_, hk⟩
    have h : (sd == td) = (decide (sp = tp) && decide (sd = td)) := by
      rw [Bool.eq_iff_iff]; simp [H.out]
    rw [← h]
    rfl
  · have t : (sp == tp) = false := by simp [h]
    have H := Lib.hid h
    clear h
    go_enter Tryz.func22, Tryz.ntmps22
    go_wp2_with fail
    go_ret
    refine ⟨?_, hk⟩
    have h := H.out
    simp [h]


/-- What JournalWrites computes. -/
structure WriteFacts (s : St) (a b : List UInt8) : Prop where
  same : (if (writeS s a).2 = 0 then writeS (writeS s a).1 b else writeS s a) = writeS s (a ++ b)
  code : (writeS s (a ++ b)).2 = 0 ∨ (writeS s (a ++ b)).2 = 370
  codeA : (writeS s a).2 = 0 ∨ (writeS s a).2 = 370
  ok : (writeS s (a ++ b)).2 = 0 ↔ (s.power = -1 ∨ (a.length + b.length : Int) ≤ s.power)
  lenOk : (writeS s (a ++ b)).2 = 0 → (writeS s (a ++ b)).1.data.length = s.data.length + a.length + b.length
  lenNo : (writeS s (a ++ b)).2 ≠ 0 → ((writeS s (a ++ b)).1.data.length : Int) = s.data.length + s.power ∧ (writeS s (a ++ b)).1.power = 0
  pre : s.data.length ≤ (writeS s (a ++ b)).1.data.length ∧ (writeS s (a ++ b)).1.data.take s.data.length = s.data
  cutNo : s.data.length < (writeS s (a ++ b)).1.data.length → (writeS s (a ++ b)).1.power = 0 → cutS (writeS s (a ++ b)).1 s.data.length = (zSt, 370)
  cutOk : ¬ (s.data.length < (writeS s (a ++ b)).1.data.length ∧ (writeS s (a ++ b)).1.power = 0) → (cutS (writeS s (a ++ b)).1 s.data.length).2 = 0 ∧ (cutS (writeS s (a ++ b)).1 s.data.length).1.data = s.data

theorem writeS_small {s : St} {x : List UInt8} (h1 : s.data.length ≤ 20000) (h2 : -1 ≤ s.power) (h3 : x.length ≤ 20000) : writeS s x = if s.power < 0 then (⟨s.data ++ x, s.power⟩, 0) else if s.power < x.length then (⟨s.data ++ x.take s.power.toNat, 0⟩, 370) else (⟨s.data ++ x, s.power - x.length⟩, 0) := by
  unfold writeS
  have hv : validB s.data.length s.power = true := by simp [validB]; omega
  rw [if_neg (by rw [hv]; simp), if_neg (by omega)]

theorem write_facts {s : St} {a b : List UInt8} (h1 : s.data.length ≤ 5000) (h2 : -1 ≤ s.power) (ha : a.length ≤ 5000) (hb : b.length ≤ 5000) : WriteFacts s a b := by
  have e0 := writeS_small (s := s) (x := a ++ b) (by omega) h2 (by simp; omega)
  have e1 := writeS_small (s := s) (x := a) (by omega) h2 (by omega)
  obtain ⟨d, p⟩ := s
  simp only at h1 h2 e0 e1
  simp only [List.length_append] at e0
  by_cases hp : p < 0
  · obtain rfl : p = -1 := by omega
    rw [if_pos (by omega)] at e0 e1
    have hc : d.length < (d ++ (a ++ b)).length → cutS ⟨d ++ (a ++ b), -1⟩ d.length = (⟨d, -1⟩, 0) := by
      intro hlt
      unfold cutS
      have hv : validB (d ++ (a ++ b)).length (-1) = true := by simp [validB]; omega
      simp only
      rw [if_neg (by rw [hv]; simp; omega), if_neg (by simp at hlt ⊢; omega), if_neg (by omega), if_neg (by omega)]
      simp
    constructor
    · rw [e0, e1]
      simp only [if_true]
      rw [writeS_small (by simp; omega) (by simp) (by omega), if_pos (by simp), List.append_assoc]
    · rw [e0]; simp
    · rw [e1]; simp
    · rw [e0]; simp
    · rw [e0]; simp; omega
    · rw [e0]; simp
    · rw [e0]; simp
    · rw [e0]; intro _ h; simp at h
    · rw [e0]; intro _
      by_cases hlt : d.length < (d ++ (a ++ b)).length
      · simp only; rw [hc hlt]; simp
      · have : (d ++ (a ++ b)).length = d.length := by simp at hlt ⊢; omega
        have hn : a ++ b = [] := by simp at hlt; simp [hlt]
        rw [hn]
        unfold cutS
        have hv : validB (d ++ []).length (-1) = true := by simp [validB]; omega
        simp only
        rw [if_neg (by rw [hv]; simp), if_pos (by simp)]
        simp
  · rw [if_neg hp] at e0 e1
    by_cases h3 : p < ((a.length + b.length : Nat) : Int)
    · rw [if_pos h3] at e0
      have hlen : (d ++ (a ++ b).take p.toNat).length = d.length + p.toNat := by simp; omega
      constructor
      · rw [e0]
        by_cases h4 : p < (a.length : Int)
        · rw [e1, if_pos h4]
          rw [if_neg (by simp)]
          rw [List.take_append_of_le_length (by omega)]
        · rw [e1, if_neg h4, if_pos rfl, writeS_small (by simp; omega) (by simp; omega) (by omega)]
          simp only
          rw [if_neg (by omega), if_pos (by omega), List.append_assoc]
          congr 3
          rw [List.take_append, List.take_of_length_le (show a.length ≤ p.toNat by omega)]
          congr 2
          omega
      · rw [e0]; simp
      · rw [e1]; split <;> simp
      · rw [e0]; simp; omega
      · rw [e0]; simp
      · rw [e0]; simp; omega
      · rw [e0]; simp
      · rw [e0]; intro h5 _
        simp only at h5 ⊢
        rw [hlen] at h5
        unfold cutS
        simp only
        have hv : validB (d ++ (a ++ b).take p.toNat).length 0 = true := by simp [validB]; omega
        rw [if_neg (by rw [hv]; simp; omega), if_neg (by omega), if_pos trivial]
      · rw [e0]; intro h5
        simp only at h5 ⊢
        simp only [and_true, Nat.not_lt] at h5
        have h6 : p.toNat = 0 := by omega
        rw [h6]
        unfold cutS
        have hv : validB (d ++ List.take 0 (a ++ b)).length 0 = true := by simp [validB]; omega
        simp only
        rw [if_neg (by rw [hv]; simp), if_pos (by simp)]
        simp
    · rw [if_neg h3] at e0
      constructor
      · have e1 : writeS ⟨d, p⟩ a = _ := e1.trans (if_neg (by omega))
        rw [e0, e1, if_pos rfl, writeS_small (by simp; omega) (by simp; omega) (by omega)]
        simp only
        rw [if_neg (by omega), if_neg (by omega), List.append_assoc]
        congr 2
        omega
      · rw [e0]; simp
      · rw [e1]; split <;> simp
      · rw [e0]; simp; omega
      · rw [e0]; simp; omega
      · rw [e0]; simp
      · rw [e0]; simp
      · rw [e0]; intro h5 h6
        simp only at h5 h6 ⊢
        unfold cutS
        simp only
        have hv : validB (d ++ (a ++ b)).length (p - ((a.length + b.length : Nat) : Int)) = true := by simp [validB]; omega
        rw [if_neg (by rw [hv]; simp; omega), if_neg (by omega), if_pos h6]
      · rw [e0]; intro h5
        simp only at h5 ⊢
        unfold cutS
        have hv : validB (d ++ (a ++ b)).length (p - ((a.length + b.length : Nat) : Int)) = true := by simp [validB]; omega
        simp only
        by_cases h6 : d.length < (d ++ (a ++ b)).length
        · rw [if_neg (by rw [hv]; simp; omega), if_neg (by omega), if_neg (by omega)]
          simp
        · have hn : a ++ b = [] := by simp at h6; simp [h6]
          rw [if_neg (by rw [hv]; simp; omega), if_pos (by rw [hn]; simp)]
          simp [hn]
end Go.Proofs.YtkdlimigepkepaaGreat
