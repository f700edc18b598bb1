/- What package journal computes, in plain Lean. No program in sight; no conditions. -/
import Derived.Test.YtkdlimigepkepaaGreatJ4
import Derived.Test.YtkdlimigepkepaaGreatJ5
namespace Go.Proofs.YtkdlimigepkepaaGreat
open Go.RowKit
set_option linter.unusedVariables false

def scanGo (l : List UInt8) : Nat → Nat → Nat → List (List UInt8)
  | 0, _, _ => []
  | f + 1, c, e => match nextRec l c e with
    | none => []
    | some p => p :: scanGo l f (c + 1) (e + 10 + p.length)
/-- The payloads of the records of data. -/
def scanOf (l : List UInt8) : List (List UInt8) := scanGo l (l.length + 1) 0 0

theorem scanGo_spec (l : List UInt8) (f : Nat) : ∀ (pre : List (List UInt8)), ReadsTo l pre → l.length < endOf pre + f → IsScan l (pre ++ scanGo l f pre.length (endOf pre)) := by
  induction f with
  | zero =>
    intro pre h hf
    have := h.fits
    omega
  | succ f ih =>
    intro pre h hf
    simp only [scanGo]
    cases hn : nextRec l pre.length (endOf pre) with
    | none => rw [List.append_nil]; exact ⟨h, hn⟩
    | some p =>
      have h1 := ih (pre ++ [p]) (h.snoc hn) (by rw [endOf_snoc]; omega)
      rw [endOf_snoc, List.length_append, List.length_singleton, List.append_assoc] at h1
      exact h1
theorem scanOf_spec (l : List UInt8) : IsScan l (scanOf l) := by
  have := scanGo_spec l (l.length + 1) [] (ReadsTo.nil l) (by simp [endOf])
  simpa [scanOf, endOf] using this

theorem reads_take {l : List UInt8} {ps qs : List (List UInt8)} (hp : ReadsTo l ps) (hq : ReadsTo l qs) : ∀ i, i ≤ ps.length → i ≤ qs.length → ps.take i = qs.take i := by
  intro i
  induction i with
  | zero => intros; simp
  | succ i ih =>
    intro h1 h2
    have h := ih (by omega) (by omega)
    have a := hp i (by omega)
    have b := hq i (by omega)
    rw [h, b] at a
    rw [List.take_succ_eq_append_getElem (by omega), List.take_succ_eq_append_getElem (by omega), h]
    simp only [Option.some.injEq] at a
    rw [List.getElem?_eq_getElem (by omega), List.getElem?_eq_getElem (by omega)] at a
    simp only [Option.getD_some] at a
    rw [a]
theorem IsScan.unique {l : List UInt8} {ps qs : List (List UInt8)} (hp : IsScan l ps) (hq : IsScan l qs) : ps = qs := by
  have key : ∀ {ps qs : List (List UInt8)}, IsScan l ps → IsScan l qs → ¬ ps.length < qs.length := by
    intro ps qs hp hq h
    have h1 := reads_take hp.1 hq.1 ps.length (Nat.le_refl _) (by omega)
    have h2 := hq.1 ps.length h
    rw [← h1, List.take_length, hp.2] at h2
    cases h2
  have h1 := key hp hq
  have h2 := key hq hp
  have h3 := reads_take hp.1 hq.1 ps.length (Nat.le_refl _) (by omega)
  rw [List.take_length, List.take_of_length_le (by omega)] at h3
  exact h3

structure St where
  data : List UInt8
  power : Int
structure Lg where
  st : St
  count : Int
  down : Bool

def rightB (l : Lg) : Bool := validB l.st.data.length l.st.power && (decide (l.count = ((scanOf l.st.data).length : Int)) && (l.down || decide (endOf (scanOf l.st.data) = l.st.data.length)))
def zSt : St := ⟨[], 0⟩
def zLg : Lg := ⟨zSt, 0, false⟩
def writeS (s : St) (d : List UInt8) : St × Int :=
  if validB s.data.length s.power = false then (zSt, 2)
  else if 1048576 - s.data.length < d.length then (zSt, 4)
  else if s.power < 0 then (⟨s.data ++ d, s.power⟩, 0)
  else if s.power < d.length then (⟨s.data ++ d.take s.power.toNat, 0⟩, 370)
  else (⟨s.data ++ d, s.power - d.length⟩, 0)
def cutS (s : St) (n : Int) : St × Int :=
  if validB s.data.length s.power = false ∨ n < 0 ∨ (s.data.length : Int) < n then (zSt, 2)
  else if n = s.data.length then (s, 0)
  else if s.power = 0 then (zSt, 370)
  else (⟨s.data.take n.toNat, if 0 < s.power then s.power - 1 else s.power⟩, 0)
def openS (s : St) : Lg × List (List UInt8) × Int :=
  if validB s.data.length s.power = false then (zLg, [], 2)
  else if (cutS s (endOf (scanOf s.data))).2 ≠ 0 then (zLg, [], (cutS s (endOf (scanOf s.data))).2)
  else (⟨(cutS s (endOf (scanOf s.data))).1, (scanOf s.data).length, false⟩, scanOf s.data, 0)
def addS (l : Lg) (p : List UInt8) : Lg × Int :=
  if rightB l = false ∨ 4096 < p.length then (zLg, 2)
  else if l.down = true then (zLg, 371)
  else if 65536 ≤ l.count then (zLg, 4)
  else if (writeS l.st (formOf (l.count + 1).toNat p)).2 = 0 then (⟨(writeS l.st (formOf (l.count + 1).toNat p)).1, l.count + 1, false⟩, 0)
  else if (writeS l.st (formOf (l.count + 1).toNat p)).2 = 370 then (⟨(writeS l.st (formOf (l.count + 1).toNat p)).1, l.count, true⟩, 370)
  else (zLg, (writeS l.st (formOf (l.count + 1).toNat p)).2)
def restoreS (l : Lg) (p : Int) : St × Int :=
  if rightB l = false ∨ p < -1 then (zSt, 2) else (⟨l.st.data, p⟩, 0)

end Go.Proofs.YtkdlimigepkepaaGreat
