/- The reference of layer 37: where the next record lies, in the reference's order of tests. Plain Lean; no conditions. -/
import Derived.Test.YtkdlimigepkepaaGreatJLaw
namespace Go.Proofs.YtkdlimigepkepaaGreat
open Go.RowKit
set_option linter.unusedVariables false

theorem nextRec_many {l : List UInt8} {c e : Nat} (h : 65536 ≤ c ∨ l.length < e + 10) : nextRec l c e = none := by
  cases hn : nextRec l c e with
  | none => rfl
  | some p => have := nextRec_fits hn; omega

theorem nextRec_size {l : List UInt8} {c e : Nat} (h : 4096 < leN ((l.drop (e + 4)).take 2) ∨ l.length < e + 10 + leN ((l.drop (e + 4)).take 2)) : nextRec l c e = none := by
  unfold nextRec
  repeat' split
  all_goals first | rfl | (exfalso; omega)

theorem nextRec_sum {l : List UInt8} {c e : Nat} (h : leN ((l.drop e).take 4) ≠ c + 1 ∨
    leN ((l.drop (e + 6 + leN ((l.drop (e + 4)).take 2))).take 4) ≠ chk ((l.drop e).take (6 + leN ((l.drop (e + 4)).take 2))) % 4294967296) : nextRec l c e = none := by
  unfold nextRec
  repeat' split
  all_goals first | rfl | (exfalso; rcases h with h | h <;> contradiction)

theorem nextRec_some {l : List UInt8} {c e : Nat} (h1 : c < 65536) (h2 : leN ((l.drop (e + 4)).take 2) ≤ 4096) (h3 : e + 10 + leN ((l.drop (e + 4)).take 2) ≤ l.length) (h4 : leN ((l.drop e).take 4) = c + 1)
    (h5 : leN ((l.drop (e + 6 + leN ((l.drop (e + 4)).take 2))).take 4) = chk ((l.drop e).take (6 + leN ((l.drop (e + 4)).take 2))) % 4294967296) :
    nextRec l c e = some ((l.drop (e + 6)).take (leN ((l.drop (e + 4)).take 2))) := by
  unfold nextRec
  rw [if_neg (by omega), if_neg (by omega), if_neg (fun h => h h4), if_neg (by omega), if_neg (by omega), if_neg (by omega), if_neg (by omega), if_neg (fun h => h h5)]

theorem IsScan.of {l : List UInt8} {ps : List (List UInt8)} (h : ReadsTo l ps) (hn : nextRec l ps.length (endOf ps) = none) : ps = scanOf l := IsScan.unique ⟨h, hn⟩ (scanOf_spec l)
end Go.Proofs.YtkdlimigepkepaaGreat
