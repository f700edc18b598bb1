/- Layer 37's stores: what is lacking of the contracts; texts appended to a row of texts. No conditions beyond sizes. -/
import Derived.Test.YtkdlimigepkepaaGreatK6
namespace Go.Proofs.YtkdlimigepkepaaGreat
open Go.RowKit
set_option linter.unusedVariables false

def formR (n : Int) (p : List UInt8) : List UInt8 × Int := if formB n p then (formOf n.toNat p, 0) else ([], 2)
theorem formB_facts {n : Int} {p : List UInt8} (h : formB n p = true) : ∃ m : Nat, n = m ∧ 1 ≤ m ∧ m ≤ 65536 ∧ p.length ≤ 4096 := by
  unfold formB at h
  simp at h
  exact ⟨n.toNat, by omega, by omega, by omega, by omega⟩
theorem form_all (K : Nat) (v : Value) (p : List UInt8) (n : Int) (w : World) (hv : Byts K w v p) (hK : K ≤ w.heap.size) :
    Calls Tryz.prog 19 #[.int .i64 n, v] w fun e w' => ∃ v', e = .returned (.tuple #[v', .int .i64 (formR n p).2]) ∧ OwnB w.heap.size w' v' (formR n p).1 ∧ Below w.heap.size w w' := by
  unfold formR
  cases h : formB n p with
  | true =>
    obtain ⟨m, rfl, h1, h2, h3⟩ := formB_facts h
    exact form_yes K v p m _ w hv hK rfl h1 h2 h3
  | false =>
    have hl := hv.len_le
    obtain ⟨va, cap, rfl, _⟩ := id hv
    refine (form_no va cap p n w hl h).mono ?_
    rintro e w' ⟨rfl, rfl⟩
    exact ⟨_, rfl, OwnB.nil _ _, Below.refl _ _⟩

set_option maxHeartbeats 400000 in
theorem form_ref_no (va : Option Addr) (cap : Nat) (p : List UInt8) (n : Int) (w : World) (hp : p.length ≤ maxLen) (h : formB n p = false) :
    Calls Tryz.prog 4 #[.int .i64 n, .slice va p.length cap] w fun e w' => e = .returned (.tuple #[.slice none 0 0, .int .i64 2]) ∧ w = w' := by
  unfold maxLen at hp
  unfold formB at h
  by_cases h1 : 1 ≤ n
  · have t1 : decide ((n : Int) < (1 : Int)) = false := by simp; omega
    by_cases h2 : n ≤ 65536
    · have t2 : decide ((65536 : Int) < (n : Int)) = false := by simp; omega
      have h3 : ¬ p.length ≤ 4096 := by simpa [h1, h2] using h
      have t3 : decide ((4096 : Int) < (p.length : Int)) = true := by simp; omega
      clear h h1 h2 h3
      go_enter Tryz.func4, Tryz.ntmps4
      go_wp2_with fail
      go_ret2
      exact ⟨rfl, rfl⟩
    · have t2 : decide ((65536 : Int) < (n : Int)) = true := by simp; omega
      clear h h1 h2
      go_enter Tryz.func4, Tryz.ntmps4
      go_wp2_with fail
      go_ret2
      exact ⟨rfl, rfl⟩
  · have t1 : decide ((n : Int) < (1 : Int)) = true := by simp; omega
    clear h h1
    go_enter Tryz.func4, Tryz.ntmps4
    go_wp2_with fail
    go_ret2
    exact ⟨rfl, rfl⟩
theorem form_ref_all (K : Nat) (v : Value) (p : List UInt8) (n : Int) (w : World) (hv : Byts K w v p) (hK : K ≤ w.heap.size) :
    Calls Tryz.prog 4 #[.int .i64 n, v] w fun e w' => ∃ v', e = .returned (.tuple #[v', .int .i64 (formR n p).2]) ∧ OwnB w.heap.size w' v' (formR n p).1 ∧ Below w.heap.size w w' := by
  unfold formR
  cases h : formB n p with
  | true =>
    obtain ⟨m, rfl, h1, h2, h3⟩ := formB_facts h
    exact form_ref K v p m _ w hv hK rfl h1 h2 h3
  | false =>
    have hl := hv.len_le
    obtain ⟨va, cap, rfl, _⟩ := id hv
    refine (form_ref_no va cap p n w hl h).mono ?_
    rintro e w' ⟨rfl, rfl⟩
    exact ⟨_, rfl, OwnB.nil _ _, Below.refl _ _⟩
theorem formR_len (n : Int) (p : List UInt8) : (formR n p).1.length ≤ 10 + p.length := by
  unfold formR
  split
  · simp [formOf_length]
  · simp

theorem writeS_eq {s : St} {d : List UInt8} (hv : validB s.data.length s.power = true) (h : s.data.length + d.length ≤ 1048576) : writeS s d = wrS s d := by
  unfold writeS wrS
  rw [if_neg (by rw [hv]; simp), if_neg (by omega)]

set_option maxRecDepth 100000 in
set_option maxHeartbeats 2000000 in
theorem write_ref (K : Nat) (v vd : Value) (s : St) (d : List UInt8) (w : World) (hv : Byts K w v s.data) (hd : Byts K w vd d) (hK : K ≤ w.heap.size) (hp : s.power ≤ 2 ^ 63 - 1) (hsd : s.data.length ≤ 2 ^ 21) (hdd : d.length ≤ 2 ^ 21) :
    Calls Tryz.prog 13 #[.agg #[v, .int .i64 s.power], vd] w fun e w' => ∃ v', e = .returned (.tuple #[.agg #[v', .int .i64 (writeS s d).1.power], .int .i64 (writeS s d).2]) ∧ OwnB w.heap.size w' v' (writeS s d).1.data ∧ Below w.heap.size w w' := by
  obtain ⟨va, cap, rfl, _, _, _⟩ := id hv
  obtain ⟨da, dcap, rfl, _, _, _⟩ := id hd
  have hW : ∀ (K : Nat) (v vd : Value) (w : World), Byts K w v s.data → Byts K w vd d → K ≤ w.heap.size → -1 ≤ s.power → s.data.length + d.length ≤ 2 ^ 21 → Calls Tryz.prog 38 #[.agg #[v, .int .i64 s.power], vd] w fun e w' => ∃ v', e = .returned (.tuple #[.agg #[v', .int .i64 (wrS s d).1.power], .int .i64 (wrS s d).2]) ∧ OwnB w.heap.size w' v' (wrS s d).1.data ∧ Below w.heap.size w w' :=
    fun K v vd w h1 h2 h3 h4 h5 => wr_ref K v vd s d w h1 h2 h3 hp h4 h5
  obtain ⟨sd, hsd'⟩ : ∃ x, s.data = x := ⟨_, rfl⟩
  obtain ⟨p, hsp⟩ : ∃ x, s.power = x := ⟨_, rfl⟩
  have HEQ : Hid (s.data = sd ∧ s.power = p) := ⟨hsd', hsp⟩
  rw [hsd', hsp] at hW
  rw [hsd'] at hv hsd
  rw [hsd', hsp]
  have HV := Lib.hid hv; have HD := Lib.hid hd; have HW := Lib.hid hW
  clear hv hd hW hp hsd' hsp
  go_enter Tryz.func13, Tryz.ntmps13
  go_wp2_with fail
  refine (valid_ref va sd.length cap p _ (by unfold maxLen; omega)).mono ?_
  rintro e w1 ⟨rfl, hb1⟩
  have q1 : Blk w1 w.heap.size #[.slice va sd.length cap, .int .i64 p] 39 := ((Blk.new w _ _).alloc _).below hb1 (by simp; omega)
  have r1 : Blk w1 (w.heap.size + 1) #[.slice none 0 0, .int .i64 0] 39 := by
    have := Blk.new (w.alloc (.cells #[.slice va sd.length cap, .int .i64 p] 39)) #[.slice none 0 0, .int .i64 0] 39
    rw [World.size_alloc] at this
    exact this.below hb1 (by simp)
  obtain ⟨c0, c1, f0, f1⟩ := q1.two
  obtain ⟨d0, d1, g0, g1⟩ := r1.two
  have hz1 : w.heap.size + 1 < w1.heap.size := r1.lt
  have hq1 : Below w.heap.size w w1 := (((Below.refl _ w).alloc (Nat.le_refl _) _).alloc (by simp) _).trans (hb1.mono (by simp; omega))
  cases hvb : validB sd.length p with
  | false =>
    have hr : Hid (writeS s d = (zSt, 2)) := by unfold Hid writeS; rw [HEQ.out.1, HEQ.out.2, if_pos hvb]
    clear hvb
    go_wp2_with fail
    rw [hr.out]
    refine bodyPost_ret (v := .tuple #[.agg #[.slice none 0 0, .int .i64 0], .int .i64 2]) (by simp [results, Tryz.results13, go_sem, d0, d1]) rfl ⟨_, rfl, OwnB.nil _ _, ?_⟩
    exact (hq1.setCell (by simp) _).setCell (by simp) _
  | true =>
    have hvf : sd.length ≤ 1048576 ∧ -1 ≤ p := by unfold validB at hvb; simp at hvb; omega
    by_cases h4 : 1048576 < sd.length + d.length
    · have t4 : decide ((1048576 : Int) < (sd.length : Int) + (d.length : Int)) = true := by simp; omega
      have hr : Hid (writeS s d = (zSt, 4)) := by unfold Hid writeS; rw [HEQ.out.1, HEQ.out.2, if_neg (by rw [hvb]; simp), if_pos (by omega)]
      clear hvb h4
      go_wp2_with fail
      rw [hr.out]
      refine bodyPost_ret (v := .tuple #[.agg #[.slice none 0 0, .int .i64 0], .int .i64 4]) (by simp [results, Tryz.results13, go_sem, d0, d1]) rfl ⟨_, rfl, OwnB.nil _ _, ?_⟩
      exact (hq1.setCell (by simp) _).setCell (by simp) _
    · have t4 : decide ((1048576 : Int) < (sd.length : Int) + (d.length : Int)) = false := by simp; omega
      have hr : Hid (writeS s d = wrS s d) := writeS_eq (by rw [HEQ.out.1, HEQ.out.2]; exact hvb) (by rw [HEQ.out.1]; omega)
      have h5 : sd.length + d.length ≤ 2 ^ 21 := by omega
      clear hvb h4
      go_wp2_with fail
      refine (HW.out w1.heap.size _ _ w1 (HV.out.below (hq1.mono hK) (by omega)) (HD.out.below (hq1.mono hK) (by omega)) (Nat.le_refl _) hvf.2 h5).mono ?_
      rintro e w2 ⟨v', rfl, ho2, hb2⟩
      have r2 := r1.below hb2 hz1
      obtain ⟨ra, rn, rc, rfl⟩ := ownBlock_of_OwnB ho2
      obtain ⟨ws, hws⟩ : ∃ x, wrS s d = x := ⟨_, rfl⟩
      rw [hws] at ho2 hr ⊢
      obtain ⟨⟨xd, xp⟩, xe⟩ := ws
      have hq2 := hq1.trans (hb2.mono (by omega))
      have hs2 := hb2.size
      clear c0 c1 f0 f1 d0 d1 g0 g1 hws
      obtain ⟨d0, d1, g0, g1⟩ := r2.two
      have hz2 : w.heap.size + 1 < w2.heap.size := by omega
      simp only at ho2 ⊢
      go_wp2_with fail
      rw [hr.out]
      refine bodyPost_ret (v := .tuple #[.agg #[.slice ra rn rc, .int .i64 xp], .int .i64 xe]) (by simp [results, Tryz.results13, go_sem, d0, d1]) rfl ⟨_, rfl, ?_, ?_⟩
      · exact OwnB.mono (ho2.above (B := w.heap.size + 2) (((Above.refl _ w2).set (by omega) _ _).set (by omega) _ _) (by omega)) (by omega)
      · exact (hq2.setCell (by simp) _).setCell (by simp) _
end Go.Proofs.YtkdlimigepkepaaGreat
