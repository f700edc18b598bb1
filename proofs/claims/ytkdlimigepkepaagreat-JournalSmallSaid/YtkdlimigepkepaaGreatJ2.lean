/- Package journal's reader: record. No conditions beyond the readings of the arguments. -/
import Derived.Test.YtkdlimigepkepaaGreatJ1
namespace Go.Proofs.YtkdlimigepkepaaGreat
open Go.RowKit
set_option linter.unusedVariables false

/-- The payload of the record with the number c + 1 that lies at e, if there is one. -/
def nextRec (l : List UInt8) (c e : Nat) : Option (List UInt8) :=
  if 65536 ≤ c then none
  else if l.length < e + 4 then none
  else if leN ((l.drop e).take 4) ≠ c + 1 then none
  else if l.length < e + 6 then none
  else if 4096 < leN ((l.drop (e + 4)).take 2) then none
  else if l.length < e + 6 + leN ((l.drop (e + 4)).take 2) then none
  else if l.length < e + 10 + leN ((l.drop (e + 4)).take 2) then none
  else if leN ((l.drop (e + 6 + leN ((l.drop (e + 4)).take 2))).take 4) ≠ chk ((l.drop e).take (6 + leN ((l.drop (e + 4)).take 2))) % 4294967296 then none
  else some ((l.drop (e + 6)).take (leN ((l.drop (e + 4)).take 2)))

theorem number_y (K R : Nat) (v : Value) (l : List UInt8) (a n : Nat) (n' a' c e : Int) (w : World) (hv : Byts K w v l) (hK : K ≤ R) (hr : Rd w R v a' c e) (ha : a' = a) (hn' : n' = n) (hn : n ≤ 4) (hn1 : 1 ≤ n) (hy : a + n ≤ l.length) :
    Calls Tryz.prog 70 #[.pointer (some ⟨R, 0, none⟩), .int .i64 n'] w fun e' w' =>
      e' = .returned (.tuple #[.int .i64 (leN ((l.drop a).take n)), .bool true]) ∧ Rd w' R v ((a + n : Nat) : Int) c e ∧ w.grownBy w' (some R) ∧ Byts K w' v l := by
  subst ha hn'
  refine (number_yes K R v l a n c e w hv hK hr hn hn1 hy).mono ?_
  rintro e' w' ⟨rfl, h1, h2⟩
  exact ⟨rfl, by rw [Int.natCast_add]; exact h1, h2, hv.grown h2 hK⟩
theorem number_n (K R : Nat) (v : Value) (l : List UInt8) (a : Nat) (n' a' c e : Int) (w : World) (hv : Byts K w v l) (hr : Rd w R v a' c e) (ha : a' = a) (ha2 : a ≤ l.length) (hy : (l.length : Int) < a + n') :
    Calls Tryz.prog 70 #[.pointer (some ⟨R, 0, none⟩), .int .i64 n'] w fun e' w' => e' = .returned (.tuple #[.int .i64 0, .bool false]) ∧ Rd w' R v a' c e ∧ w.grownBy w' (some R) := by
  subst ha
  obtain ⟨a', cap, rfl, h1, h2, _⟩ := hv
  exact number_no R a' l.length cap a c e n' w hr (by omega) (by omega) (by omega) (by omega)

/-- What record gives where there is no record. -/
def NoRec (w : World) (R : Nat) (v : Value) (c e : Int) (e' : Ending) (w' : World) : Prop :=
  e' = .returned (.tuple #[.slice none 0 0, .bool false]) ∧ (∃ a', Rd w' R v a' c e) ∧ w.grownBy w' (some R)

/-- What record gives where there is one. -/
def YesRec (K : Nat) (w : World) (R : Nat) (v : Value) (c e : Nat) (p : List UInt8) (e' : Ending) (w' : World) : Prop :=
  ∃ v', e' = .returned (.tuple #[v', .bool true]) ∧ Byts K w' v' p ∧ Rd w' R v ((e + 10 + p.length : Nat) : Int) ((c + 1 : Nat) : Int) ((e + 10 + p.length : Nat) : Int) ∧ w.grownBy w' (some R)

def RecPost (K : Nat) (w : World) (R : Nat) (v : Value) (l : List UInt8) (c e : Nat) (e' : Ending) (w' : World) : Prop :=
  match nextRec l c e with
  | none => NoRec w R v c e e' w'
  | some p => YesRec K w R v c e p e' w'

theorem RecPost.no {K R c e : Nat} {w w' : World} {v : Value} {l : List UInt8} {e' : Ending} (h : nextRec l c e = none) (h' : NoRec w R v c e e' w') : RecPost K w R v l c e e' w' := by
  unfold RecPost; rw [h]; exact h'
theorem RecPost.yes {K R c e : Nat} {w w' : World} {v : Value} {l p : List UInt8} {e' : Ending} (h : nextRec l c e = some p) (h' : YesRec K w R v c e p e' w') : RecPost K w R v l c e e' w' := by
  unfold RecPost; rw [h]; exact h'

set_option maxRecDepth 100000 in
set_option maxHeartbeats 1000000 in
theorem record_any (K R : Nat) (v : Value) (l : List UInt8) (c e : Nat) (w : World) (hv : Byts K w v l) (hK : K ≤ R) (hr : Rd w R v e c e) (he : e ≤ l.length) (hc : c ≤ 2 ^ 16) :
    Calls Tryz.prog 46 #[.pointer (some ⟨R, 0, none⟩)] w (RecPost K w R v l c e) := by
  have hlm := hv.len_le
  unfold maxLen at hlm
  obtain ⟨c0, c1, c2, c3, f1, f2, f3⟩ := hr.facts
  by_cases h1 : 65536 ≤ c
  · have h1' : decide ((65536 : Int) ≤ (c : Int)) = true := by simp; omega
    have hn : Hid (nextRec l c e = none) := by unfold Hid nextRec; rw [if_pos h1]
    clear h1
    go_enter Tryz.func46, Tryz.ntmps46
    go_wp2_with fail
    go_ret2
    exact RecPost.no hn.out ⟨rfl, ⟨_, hr⟩, World.grownBy.refl _ _⟩
  have h1' : decide ((65536 : Int) ≤ (c : Int)) = false := by simp; omega
  have H1 := Lib.hid h1; clear h1
  go_enter Tryz.func46, Tryz.ntmps46
  go_wp2_with fail
  by_cases h2 : l.length < e + 4
  · have hn : Hid (nextRec l c e = none) := by unfold Hid nextRec; rw [if_neg H1.out, if_pos h2]
    refine (number_n K R v l e _ _ _ _ _ hv hr rfl he (by omega)).mono ?_
    rintro e' w1 ⟨rfl, hr1, hg1⟩
    clear c0 c1 c2 c3 f1 f2 f3
    go_wp2_with fail
    go_ret2
    exact RecPost.no hn.out ⟨rfl, ⟨_, hr1⟩, hg1⟩
  refine (number_y K R v l e 4 _ _ _ _ _ hv hK hr rfl rfl (by omega) (by omega) (by omega)).mono ?_
  obtain ⟨m, hm⟩ : ∃ m, leN ((l.drop e).take 4) = m := ⟨_, rfl⟩
  rw [hm]
  have HM := Lib.hid hm
  clear hm c0 c1 c2 c3 f1 f2 f3
  rintro e' w1 ⟨rfl, hr1, hg1, hv1⟩
  have H2 := Lib.hid h2; clear h2
  obtain ⟨c0, c1, c2, c3, f1, f2, f3⟩ := hr1.facts
  by_cases h3 : m ≠ c + 1
  · have h3' : ((m : Int) != (c : Int) + 1) = true := by rw [bne_iff_ne]; omega
    have hn : Hid (nextRec l c e = none) := by unfold Hid nextRec; rw [if_neg H1.out, if_neg H2.out, HM.out, if_pos h3]
    clear h3
    go_wp2_with fail
    go_ret2
    exact RecPost.no hn.out ⟨rfl, ⟨_, hr1⟩, hg1⟩
  have h3' : ((m : Int) != (c : Int) + 1) = false := by rw [bne_eq_false_iff_eq]; omega
  have H3 : Hid (¬ leN ((l.drop e).take 4) ≠ c + 1) := by unfold Hid; rw [HM.out]; exact h3
  clear h3 HM
  go_wp2_with fail
  by_cases h4 : l.length < e + 6
  · have hn : Hid (nextRec l c e = none) := by unfold Hid nextRec; rw [if_neg H1.out, if_neg H2.out, if_neg H3.out, if_pos h4]
    refine (number_n K R v l (e + 4) _ _ _ _ _ hv1 hr1 rfl (by have := H2.out; omega) (by omega)).mono ?_
    rintro e' w2 ⟨rfl, hr2, hg2⟩
    clear c0 c1 c2 c3 f1 f2 f3
    go_wp2_with fail
    go_ret2
    exact RecPost.no hn.out ⟨rfl, ⟨_, hr2⟩, hg1.trans hg2⟩
  refine (number_y K R v l (e + 4) 2 _ _ _ _ _ hv1 hK hr1 rfl rfl (by omega) (by omega) (by omega)).mono ?_
  obtain ⟨n, hm⟩ : ∃ n, leN ((l.drop (e + 4)).take 2) = n := ⟨_, rfl⟩
  have HM := Lib.hid hm
  rw [hm]
  clear hm c0 c1 c2 c3 f1 f2 f3
  rintro e' w2 ⟨rfl, hr2, hg2, hv2⟩
  have H4 := Lib.hid h4; clear h4
  have hg2' := hg1.trans hg2
  clear hv hr hr1 hv1 hg1 hg2 h3'
  by_cases h5 : 4096 < n
  · have hn : Hid (nextRec l c e = none) := by unfold Hid nextRec; rw [if_neg H1.out, if_neg H2.out, if_neg H3.out, if_neg H4.out, HM.out, if_pos h5]
    have h5' : decide ((4096 : Int) < (n : Int)) = true := by simp; omega
    clear h5
    go_wp2_with fail
    go_ret2
    exact RecPost.no hn.out ⟨rfl, ⟨_, hr2⟩, hg2'⟩
  have h5' : decide ((4096 : Int) < (n : Int)) = false := by simp; omega
  have H5 := Lib.hid h5; clear h5
  go_wp2_with fail
  by_cases h6 : l.length < e + 6 + n
  · have hn : Hid (nextRec l c e = none) := by unfold Hid nextRec; rw [if_neg H1.out, if_neg H2.out, if_neg H3.out, if_neg H4.out, HM.out, if_neg H5.out, if_pos h6]
    obtain ⟨a', cap, rfl, q1, q2, _⟩ := id hv2
    refine (take_no R a' l.length cap _ _ _ n _ hr2 (by omega) (by omega) (by have := H4.out; omega) (by omega)).mono ?_
    rintro e' w3 ⟨rfl, hr3, hg3⟩
    clear q1 q2
    go_wp2_with fail
    go_ret2
    exact RecPost.no hn.out ⟨rfl, ⟨_, hr3⟩, hg2'.trans hg3⟩
  have H6 := Lib.hid h6; clear h6
  refine (take_yes K R v l (e + 4 + 2) n _ _ _ hv2 hK hr2 (by have := H5.out; omega) (by have := H6.out; omega)).mono ?_
  rintro e' w3 ⟨pv, rfl, hp3, hr3, hg3⟩
  have hg3' := hg2'.trans hg3
  have hv3 := hv2.grown hg3 hK
  clear hv2 hg2' hg3 hr2
  obtain ⟨va, cap, rfl, q1, q2, _⟩ := id hv3
  unfold maxLen at q2
  obtain ⟨q, hq⟩ : ∃ q, e + 6 + n = q := ⟨_, rfl⟩
  have hr3 : Rd w3 R (.slice va l.length cap) (q : Int) c e := by rw [← hq]; simpa [Int.natCast_add, Int.add_assoc] using hr3
  obtain ⟨c0, c1, c2, c3, f1, f2, f3⟩ := hr3.facts
  have hsum := hv3.sub e (6 + n) (by have := H6.out; omega)
  rw [show 6 + n = q - e by omega] at hsum
  have hb1 : (e : Int) ≤ (q : Int) := by omega
  have hb2 : (q : Int) ≤ (l.length : Int) := by have := H6.out; omega
  have hb3 : (l.length : Int) ≤ (cap : Int) := by omega
  have HQ := Lib.hid hq; clear hq
  have hca : ¬ cap = e := by have := HQ.out; omega
  obtain ⟨S, hS⟩ : ∃ S, chkM ((l.drop e).take (q - e)) = S := ⟨_, rfl⟩
  have hk := checksum_any K _ _ w3 hsum
  obtain ⟨hS0, hS1⟩ := chkM_bd ((l.drop e).take (q - e))
  rw [hS] at hS0 hS1
  have hk : ∀ n, Calls Tryz.prog 40 #[.slice (va.map (·.add e)) (q - e) (cap - e)] (w3.drewN n) fun e' w' => e' = .returned (.int .u32 S) ∧ w3.drewN n = w' := fun n => hS ▸ checksum_any K _ _ _ (hsum.drewN n)
  have HK := Lib.hid hk
  have HS := Lib.hid hS
  clear hk hS hsum
  go_wp2_with fail
  go_quiet ((go_at_call 40; exact quiet_eq (HK.out _)))
  clear HK c0 c1 c2 c3 f1 f2 f3
  go_wp2_with fail
  by_cases h7 : l.length < e + 10 + n
  · have hn : Hid (nextRec l c e = none) := by unfold Hid nextRec; rw [if_neg H1.out, if_neg H2.out, if_neg H3.out, if_neg H4.out, HM.out, if_neg H5.out, if_neg H6.out, if_pos h7]
    refine (number_n K R _ l q _ _ _ _ _ (hv3.drewN nq) (hr3.drewN nq) rfl (by have := HQ.out; have := H6.out; omega) (by have := HQ.out; omega)).mono ?_
    rintro e' w4 ⟨rfl, hr4, hg4⟩
    go_wp2_with fail
    go_ret2
    exact RecPost.no hn.out ⟨rfl, ⟨_, hr4⟩, (hg3'.trans (grownBy_drewN _ _ _)).trans hg4⟩
  have H7 := Lib.hid h7; clear h7
  refine (number_y K R _ l q 4 _ _ _ _ _ (hv3.drewN nq) hK (hr3.drewN nq) rfl rfl (by omega) (by omega) (by have := H7.out; have := HQ.out; omega)).mono ?_
  obtain ⟨t, ht⟩ : ∃ t, leN ((l.drop q).take 4) = t := ⟨_, rfl⟩
  rw [ht]
  have HT := Lib.hid ht; clear ht
  rintro e' w4 ⟨rfl, hr4, hg4, hv4⟩
  have hg4' := (hg3'.trans (grownBy_drewN _ nq _)).trans hg4
  have hp4 := hp3.grown ((grownBy_drewN _ nq _).trans hg4) hK
  clear hg3' hg4 hv3 hr3 hp3
  have hqe : Hid (q - e = 6 + n) := by unfold Hid; have := HQ.out; omega
  have hSe : Hid ((t : Int) = S ↔ t = chk ((l.drop e).take (6 + n)) % 4294967296) := by
    unfold Hid; rw [← HS.out, hqe.out]; unfold chkM; omega
  have hTe : Hid (leN ((l.drop (e + 6 + n)).take 4) = t) := by unfold Hid; rw [HQ.out, HT.out]
  by_cases h8 : (t : Int) = S
  · have h8' : ((t : Int) != S) = false := by rw [bne_eq_false_iff_eq]; exact h8
    have hn : Hid (nextRec l c e = some ((l.drop (e + 6)).take n)) := by
      unfold Hid nextRec; rw [if_neg H1.out, if_neg H2.out, if_neg H3.out, if_neg H4.out, HM.out, if_neg H5.out, if_neg H6.out, if_neg H7.out, hTe.out, if_neg (fun h => h (hSe.out.1 h8))]
    clear h8
    have hp4' : Byts K w4 pv ((l.drop (e + 6)).take n) := hp4
    have hle : Hid (e + 10 + ((l.drop (e + 6)).take n).length = q + 4) := by
      unfold Hid; have := HQ.out; have := H6.out; rw [List.length_take, List.length_drop]; omega
    obtain ⟨c0, c1, c2, c3, f1, f2, f3⟩ := hr4.facts
    go_wp2_with fail
    go_ret2
    refine RecPost.yes hn.out ⟨_, rfl, ?_, ?_, ?_⟩
    · exact hp4'.grown ((grownBy_setCell w4 R 2 _).trans (grownBy_setCell _ R 3 _)) hK
    · rw [hle.out, Int.natCast_add c 1]
      exact (hr4.set2 _).set3 _
    · exact hg4'.trans ((grownBy_setCell w4 R 2 _).trans (grownBy_setCell _ R 3 _))
  · have h8' : ((t : Int) != S) = true := by rw [bne_iff_ne]; exact h8
    have hn : Hid (nextRec l c e = none) := by
      unfold Hid nextRec; rw [if_neg H1.out, if_neg H2.out, if_neg H3.out, if_neg H4.out, HM.out, if_neg H5.out, if_neg H6.out, if_neg H7.out, hTe.out, if_pos (fun h => h8 (hSe.out.2 h))]
    clear h8
    go_wp2_with fail
    go_ret2
    exact RecPost.no hn.out ⟨rfl, ⟨_, hr4⟩, hg4'⟩
end Go.Proofs.YtkdlimigepkepaaGreat
