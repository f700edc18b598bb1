/- Package journal's iterator over records: its contract. No conditions beyond the readings of the arguments. -/
import Derived.Test.YtkdlimigepkepaaGreatJ2
import Derived.Test.YtkdlimigepkepaaGreatRF
namespace Go.Proofs.YtkdlimigepkepaaGreat
open Go.RowKit
set_option linter.unusedVariables false
attribute [local go_sem] Oper.semAt_some

/-- Where some records end. -/
def endOf : List (List UInt8) → Nat
  | [] => 0
  | p :: r => 10 + p.length + endOf r
theorem endOf_append (a b : List (List UInt8)) : endOf (a ++ b) = endOf a + endOf b := by
  induction a with
  | nil => simp [endOf]
  | cons x a ih => simp [endOf, ih]; omega
theorem endOf_snoc (a : List (List UInt8)) (p : List UInt8) : endOf (a ++ [p]) = endOf a + 10 + p.length := by
  rw [endOf_append]; simp [endOf]; omega

/-- Some payloads are those of the first records of data. -/
def ReadsTo (l : List UInt8) (ps : List (List UInt8)) : Prop := ∀ i, i < ps.length → nextRec l i (endOf (ps.take i)) = some (ps[i]?.getD [])
/-- They are the payloads of all records of data. -/
def IsScan (l : List UInt8) (ps : List (List UInt8)) : Prop := ReadsTo l ps ∧ nextRec l ps.length (endOf ps) = none

theorem ReadsTo.nil (l : List UInt8) : ReadsTo l [] := fun i hi => absurd hi (by simp)
theorem ReadsTo.snoc {l : List UInt8} {ps : List (List UInt8)} {p : List UInt8} (h : ReadsTo l ps) (hp : nextRec l ps.length (endOf ps) = some p) : ReadsTo l (ps ++ [p]) := by
  intro i hi
  rw [List.length_append, List.length_singleton] at hi
  by_cases h1 : i < ps.length
  · rw [List.take_append_of_le_length (by omega), List.getElem?_append_left h1]
    exact h i h1
  · obtain rfl : i = ps.length := by omega
    rw [List.take_left, List.getElem?_concat_length]
    simpa using hp
theorem nextRec_fits {l p : List UInt8} {c e : Nat} (h : nextRec l c e = some p) : e + 10 + p.length ≤ l.length ∧ c < 65536 ∧ p.length ≤ 4096 := by
  unfold nextRec at h
  by_cases h1 : 65536 ≤ c
  · rw [if_pos h1] at h; cases h
  rw [if_neg h1] at h
  by_cases h2 : l.length < e + 4
  · rw [if_pos h2] at h; cases h
  rw [if_neg h2] at h
  split at h
  · cases h
  by_cases h4 : l.length < e + 6
  · rw [if_pos h4] at h; cases h
  rw [if_neg h4] at h
  split at h
  · cases h
  split at h
  · cases h
  split at h
  · cases h
  split at h
  · cases h
  simp only [Option.some.injEq] at h
  subst h
  rw [List.length_take, List.length_drop]
  omega
theorem ReadsTo.fits {l : List UInt8} {ps : List (List UInt8)} (h : ReadsTo l ps) : endOf ps ≤ l.length ∧ ps.length ≤ 65536 := by
  rcases List.eq_nil_or_concat ps with rfl | ⟨qs, q, rfl⟩
  · simp [endOf]
  · rw [List.concat_eq_append] at h ⊢
    have := h qs.length (by simp)
    simp at this
    have h2 := nextRec_fits this
    rw [endOf_snoc, List.length_append, List.length_singleton]
    omega

/-- The count where the last record ends, read off the memory (for a measure). -/
def rdEnd (w : World) (R : Nat) : Nat := match w.heap[R]? with
  | some (.cells c _ _) => (intOf (c[3]?.getD undef)).toNat
  | _ => 0
theorem Rd.rdEnd {w : World} {R : Nat} {v : Value} {a c e : Int} (h : Rd w R v a c e) : rdEnd w R = e.toNat := by
  unfold YtkdlimigepkepaaGreat.rdEnd; rw [h]; simp [intOf]

/-- What the body of a loop over records keeps. -/
def KeepR (K R : Nat) (W W' : World) : Prop := W'.heap[R]? = W.heap[R]? ∧ Below K W W'

set_option maxRecDepth 100000 in
set_option maxHeartbeats 1000000 in
theorem records_iter (K R : Nat) (v : Value) (l : List UInt8) (hK : K ≤ R) :
    IterSt (α := Value × List UInt8) Tryz.prog 41 (fun i => #[.pointer (some ⟨R, 0, none⟩)] ++ #[.func (.yield i) #[] #[]] ++ #[]) (fun x => #[x.1]) (fun pre x W => Byts K W x.1 x.2 ∧ pre.length < 65536 ∧ x.2.length ≤ 4096) (fun A B => A.grownBy B (some R)) (KeepR K R)
      (fun xs W => IsScan l (xs.map (·.2)) ∧ ∃ a, Rd W R v a xs.length (endOf (xs.map (·.2)))) (fun xs W => ∃ a, Rd W R v a xs.length (endOf (xs.map (·.2))))
      (fun W => Rd W R v 0 0 0 ∧ Byts K W v l) := by
  rintro n i J Jx W ⟨hr, hv⟩ hJ hJx hY h0
  refine callsIn_of_wp Tryz.func41 rfl trivial ?_
  simp only [Tryz.ntmps41, List.size_toArray, List.length_cons, List.length_nil, Nat.reduceAdd, Nat.reduceSub, Array.replicate_succ, Array.replicate_zero, List.push_toArray, List.append_toArray, List.nil_append, List.cons_append]
  gi_wp2
  gi_loopw [] (fun wr => ∃ (pre : List (Value × List UInt8)), J pre wr ∧ Rd wr R v (endOf (pre.map (·.2))) pre.length (endOf (pre.map (·.2))) ∧ Byts K wr v l ∧ ReadsTo l (pre.map (·.2)))
    (fun wr => l.length - rdEnd wr R)
  case atStart => exact ⟨[], h0, hr, hv, ReadsTo.nil l⟩
  case round =>
    obtain ⟨pre, hj, hrd, hvr, hps⟩ := hrel
    have hfit := hps.fits
    rw [List.length_map] at hfit
    have hrec := record_any K R v l pre.length (endOf (pre.map (·.2))) wr hvr hK hrd hfit.1 (by omega)
    obtain ⟨ps, hpe⟩ : ∃ ps, pre.map (·.2) = ps := ⟨_, rfl⟩
    rw [hpe] at hrd hps hfit hrec
    obtain ⟨e, he⟩ : ∃ e, endOf ps = e := ⟨_, rfl⟩
    rw [he] at hrd hfit hrec
    have HP := Lib.hid hpe; have HE := Lib.hid he
    have HS := Lib.hid hps
    clear hps he hpe
    cases hn : nextRec l pre.length e with
    | none =>
      have HN := Lib.hid hn; clear hn
      gi_wp2_with fail
      refine ⟨trivial, wide_depth, callsIn_wide.2 (hrec.mono ?_)⟩
      intro e' w1 h
      unfold RecPost at h
      rw [HN.out] at h
      obtain ⟨rfl, ⟨a', hr1⟩, hg1⟩ := h
      have hj1 := hJ _ _ _ hj hg1
      gi_wp2_with fail
      refine ⟨fun _ h => (by cases h), ?_⟩
      gi_wp2_with fail
      refine bodyPost_ret (results_none rfl _ _ _) rfl ?_
      refine ⟨⟨_, rfl⟩, .inl ⟨pre, ⟨⟨by rw [HP.out]; exact HS.out, ?_⟩, a', ?_⟩, hj1⟩⟩
      · rw [List.length_map, HP.out, HE.out]; exact HN.out
      · rw [HP.out, HE.out]; exact hr1
    | some p =>
      have HN := Lib.hid hn; clear hn
      gi_wp2_with fail
      refine ⟨trivial, wide_depth, callsIn_wide.2 (hrec.mono ?_)⟩
      intro e' w1 h
      unfold RecPost at h
      rw [HN.out] at h
      obtain ⟨pv, rfl, hb1, hr1, hg1⟩ := h
      have hj1 := hJ _ _ _ hj hg1
      have hv1 := hvr.grown hg1 hK
      obtain ⟨fn, tmps, assign, body, hy, hR⟩ := hY pre (pv, p) w1 hj1 ⟨hb1, (nextRec_fits HN.out).2⟩
      dsimp only at hy
      have hrd0 := hrd
      clear hY hrec hrd hvr hg1 hj hb1
      gi_wp2_with fail
      refine ⟨wide_depth, hR.mono ?_⟩
      have hp1 : Hid ((pre ++ [(pv, p)]).map (·.2) = ps ++ [p]) := by unfold Hid; rw [List.map_append, HP.out]; rfl
      have he1 : Hid (endOf ((pre ++ [(pv, p)]).map (·.2)) = e + 10 + p.length) := by unfold Hid; rw [hp1.out, endOf_snoc, HE.out]
      have hl1 : Hid ((pre ++ [(pv, p)]).length = pre.length + 1) := by unfold Hid; simp
      have hpl : pre.length = ps.length := by rw [← HP.out]; simp
      have hf1 := nextRec_fits HN.out
      have hps1 : ReadsTo l (ps ++ [p]) := HS.out.snoc (by rw [HE.out, ← hpl]; exact HN.out)
      have HS1 := Lib.hid hps1; clear hps1 hpl
      clear hR hy
      rintro e' W3 (⟨rfl, hj3, hk3⟩ | ⟨rfl, hj3, hk3⟩)
      · have hr3 : Rd W3 R v ((e + 10 + p.length : Nat) : Int) ((pre.length + 1 : Nat) : Int) ((e + 10 + p.length : Nat) : Int) := by unfold Rd; rw [hk3.1]; exact hr1
        have hv3 := hv1.below hk3.2 (Nat.le_refl _)
        gi_wp2_with fail
        refine ⟨⟨pre ++ [(pv, p)], hj3, by rw [he1.out, hl1.out]; exact hr3, hv3, by rw [hp1.out]; exact HS1.out⟩, ?_⟩
        rw [hr3.rdEnd, hrd0.rdEnd]; simp only [Int.toNat_natCast]; omega
      · have hr3 : Rd W3 R v ((e + 10 + p.length : Nat) : Int) ((pre.length + 1 : Nat) : Int) ((e + 10 + p.length : Nat) : Int) := by unfold Rd; rw [hk3.1]; exact hr1
        gi_wp2_with fail
        refine bodyPost_ret (results_none rfl _ _ _) rfl ?_
        exact ⟨⟨_, rfl⟩, .inr ⟨pre ++ [(pv, p)], ⟨_, by rw [he1.out, hl1.out]; exact hr3⟩, hj3⟩⟩
end Go.Proofs.YtkdlimigepkepaaGreat
