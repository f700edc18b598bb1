/- JournalRead: the walk. No conditions beyond the reading of the argument. -/
import Derived.Test.YtkdlimigepkepaaJ10
import Derived.Test.YtkdlimigepkepaaJLaw
import Derived.Deep.CutRange
import Derived.IntWalk
namespace Go.Proofs.Ytkdlimigepkepaa
open Go.RowKit
set_option linter.unusedVariables false

theorem endOf_ge (ps : List (List UInt8)) : 10 * ps.length ≤ endOf ps := by
  induction ps with
  | nil => simp [endOf]
  | cons p r ih => simp only [endOf, List.length_cons]; omega

set_option maxRecDepth 100000 in
set_option maxHeartbeats 4000000 in
theorem read_walk (v : Value) (data : List UInt8) (w : World) (hv : Byts w.heap.size w v data) :
    Calls Try.prog 7 #[v] w fun e w' => e = .returned (.bool true) ∧ Below w.heap.size w w' := by
  obtain ⟨va, cap, rfl, hl1, hl2, hz, hcell⟩ := id hv
  unfold maxLen at hl2
  have HV := Lib.hid hv; have HC := Lib.hid hcell
  clear hv hz hcell
  go_enter Try.func7, Try.ntmps7
  go_wp2_with fail
  refine (awake_any _).mono ?_
  rintro e w1 ⟨rfl, hq1⟩
  by_cases h1 : 5000 < data.length
  · have t1 : decide ((5000 : Int) < (data.length : Int)) = true := by simp; omega
    clear h1
    go_wp2_with fail
    go_ret
    exact ⟨rfl, hq1⟩
  have t1 : decide ((5000 : Int) < (data.length : Int)) = false := by simp; omega
  have H1 := Lib.hid h1; clear h1
  go_wp2_with fail
  refine (scan_of _ data w1 (HV.out.below hq1 hq1.size)).mono ?_
  rintro e w2 ⟨pv, rfl, hts, hb2⟩
  have hq2 : Below w.heap.size w w2 := hq1.trans (hb2.mono hq1.size)
  have htx := hts.txts
  obtain ⟨ps, hps⟩ : ∃ ps, scanOf data = ps := ⟨_, rfl⟩
  have HP := Lib.hid hps
  rw [hps] at htx ⊢
  clear hts hps hb2 hq1
  obtain ⟨E, hE⟩ : ∃ E, endOf ps = E := ⟨_, rfl⟩
  have hE1 : E ≤ data.length := by rw [← hE]; exact endOf_le HP.out
  have hE2 : 10 * ps.length ≤ E := by rw [← hE]; exact endOf_ge ps
  have hE3 : E ≤ 2 ^ 13 - 1 := by have := H1.out; omega
  have hd13 : data.length ≤ 2 ^ 13 - 1 := by have := H1.out; omega
  rw [hE]
  have HE := Lib.hid hE; clear hE
  obtain ⟨pa, pcap, rfl, hpl, hpm, hpc⟩ := id htx
  have t2 : decide ((E : Int) < (0 : Int)) = false := by simp
  have t3 : ¬ data.length < E := by omega
  have hpm' : pcap ≤ 2 ^ 63 - 1 := by unfold maxLen at hpm; omega
  have HTX := Lib.hid htx; have HPC := Lib.hid hpc
  clear hpc htx hpm
  go_wp2_with fail
  go_loopw [5, 6, 7, 8] (fun s5 s6 s7 s8 wr => ∃ k : Nat, k ≤ ps.length ∧ s5 = .int .i64 (endOf (ps.take k) : Nat) ∧ s6 = .int .i64 k ∧ Below w2.heap.size w2 wr) (fun s5 s6 s7 s8 _ => ps.length - (intOf s6).toNat)
  case atStart => exact ⟨0, Nat.zero_le _, rfl, rfl, Below.refl _ _⟩
  case round =>
    obtain ⟨k, hk, rfl, rfl, hbr⟩ := hrel
    by_cases hlt : k < ps.length
    · obtain ⟨b, o, x, hpa, hbK, hc1, hbx⟩ := HPC.out k hlt
      subst hpa
      obtain ⟨p, hp⟩ : ∃ p, ps[k]?.getD [] = p := ⟨_, rfl⟩
      obtain ⟨A, hA⟩ : ∃ A, endOf (ps.take k) = A := ⟨_, rfl⟩
      have hf := scan_form HP.out k hlt
      have hle := endOf_take_le ps k hlt
      have hsu := endOf_take_succ ps k hlt
      have hfit := (scan_fits HP.out).2 p (by rw [← hp]; simp [hlt])
      rw [HE.out] at hle
      rw [hA] at hf hle hsu ⊢
      rw [hp] at hbx hf hle hsu
      have hcr : wr.cell? ⟨b, o + k, none⟩ = some x := (hbr.cell (p := ⟨b, o + k, none⟩) hbK).trans hc1
      have hxr := hbx.below hbr hbr.size
      have hqr := hq2.trans (hbr.mono hq2.size)
      have hdr := HV.out.below hqr hqr.size
      have HF := Lib.hid hf; have HS := Lib.hid hsu
      have hk16 : k ≤ 2 ^ 13 - 1 := by omega
      have hA16 : A + (10 + p.length) ≤ E := by omega
      clear hp hA hf hsu hc1 hbx hle
      go_wp2_with fail
      refine (form_at _ _ p (k + 1) _ _ hxr (Nat.le_refl _) (by simp) (by omega) (by omega) hfit).mono ?_
      rintro e w3 ⟨a3, c3, rfl, ho3, hb3⟩
      have hby3 := ho3.byts
      have hd3 := hdr.below hb3 hb3.size
      have hb23 := hbr.trans (hb3.mono hbr.size)
      obtain ⟨_, _, hs3, hl3, hm3, _⟩ := id hby3
      simp only [Value.slice.injEq, true_and] at hs3
      obtain ⟨rfl, rfl⟩ := hs3
      clear hxr hdr hqr hcr ho3 hb3
      have hd3s := hd3.sub A (10 + p.length) (by omega)
      rw [HF.out] at hd3s
      rw [formOf_length] at hby3 hl3 ⊢
      have s1 : ∀ m, (convert 25 9 (.slice a3 (10 + p.length) c3)).run Try.prog (w3.drewN m) = .ok (.string ⟨(formOf (k + 1) p).toArray⟩) (w3.drewN m) := fun m => conv_str (by rw [← formOf_length (k + 1) p] at hby3 ⊢; exact hby3.drewN m)
      obtain ⟨L, hL⟩ : ∃ L, 10 + p.length = L := ⟨_, rfl⟩
      rw [hL] at hA16 hl3 s1 hd3s ⊢
      have hL0 : 10 ≤ L := by omega
      have HL := Lib.hid hL
      clear hL hby3
      obtain ⟨bd, od, hbd⟩ : ∃ bd od, va = some ⟨bd, od, none⟩ := by
        obtain ⟨b', o', h', _⟩ := HC.out 0 (by omega)
        exact ⟨b', o', h'⟩
      subst hbd
      have s2 : ∀ m, (convert 25 9 (.slice (some ⟨bd, od + A, none⟩) L (cap - A))).run Try.prog (w3.drewN m) = .ok (.string ⟨(formOf (k + 1) p).toArray⟩) (w3.drewN m) := fun m => by
        refine conv_str (K := w3.heap.size) ?_
        have := hd3s.drewN m
        simp only [Option.map_some, Addr.add] at this
        split at this
        · rename_i h0; subst h0; simpa using this
        · simpa using this
      have t4 : decide ((E : Int) < (A : Int) + (L : Int)) = false := by simp; omega
      have hca : A < cap := by omega
      have hAL : (A : Int) + (L : Int) ≤ (cap : Int) := by omega
      have hwr : IntKind.i64.wrap ((A : Int) + (L : Int)) = (A : Int) + (L : Int) := IntWalk.i64_in _ (by omega)
      have htn : ((A : Int) + (L : Int)).toNat = A + L := by omega
      have hn0 : 0 ≤ (A : Int) + (L : Int) := by omega
      go_wp2_with fail
      go_quiet (fail)
      clear hwr htn hn0
      go_wp2_with fail
      go_roundw
      case rel =>
        refine ⟨k + 1, by omega, ?_, by go_num, hb23.trans (below_drewN' nq)⟩
        rw [HS.out, ← HL.out]
        simp only [Value.int.injEq, true_and]
        omega
      case measure => simp [intOf]; omega
    · obtain rfl : k = ps.length := by omega
      rw [List.take_length, HE.out]
      have hqr := hq2.trans (hbr.mono hq2.size)
      have hdr := HV.out.below hqr hqr.size
      have hd1 := hdr.take E hE1
      have hag := scan_again HP.out
      rw [HE.out] at hag
      have HAG := Lib.hid hag
      clear hag
      have hlE : E ≤ cap := by omega
      go_wp2_with fail
      refine (scan_of _ (data.take E) wr ?_).mono ?_
      · have := hd1.below (Below.refl _ wr) (Nat.le_refl _)
        have hl : (data.take E).length = E := by simp; omega
        exact this
      rintro e w3 ⟨pv, rfl, hts, hb3⟩
      rw [HAG.out] at hts ⊢
      rw [HE.out]
      have hd3 := hdr.below hb3 hb3.size
      have hq3 := hqr.trans (hb3.mono hqr.size)
      have hb23 := hbr.trans (hb3.mono hbr.size)
      have hq := hts.txts
      obtain ⟨qa, qcap, rfl, _⟩ := id hq
      have hp := HTX.out.below hb23 hb23.size
      clear hts hdr hd1 hqr hbr
      go_wp2_with fail
      refine (sameTexts_any w3.heap.size _ _ ps ps w3 hp hq).mono ?_
      rintro e w4 ⟨rfl, n4, rfl⟩
      simp only [decide_true]
      have hq4 : Below w.heap.size w (w3.drewN n4) := hq3.trans (below_drewN' n4)
      have hd4 := hd3.drewN n4
      obtain ⟨w4, hw4⟩ : ∃ X, w3.drewN n4 = X := ⟨_, rfl⟩
      have hz4 : w3.heap.size = w4.heap.size := by rw [← hw4]; rfl
      rw [hw4] at hq4 hd4 ⊢
      rw [hz4] at hd4
      clear hp hq hq3 hd3 hb3 hb23 hw4 hz4
      by_cases h10 : (data.length : Int) - (E : Int) < 10
      · have t5 : decide ((data.length : Int) - (E : Int) < (10 : Int)) = true := by simp; omega
        clear h10
        go_wp2_with fail
        go_ret
        exact ⟨rfl, hq4⟩
      have t5 : decide ((data.length : Int) - (E : Int) < (10 : Int)) = false := by simp; omega
      obtain ⟨bd, od, hbd⟩ : ∃ bd od, va = some ⟨bd, od, none⟩ := by
        obtain ⟨b', o', h', _⟩ := HC.out 0 (by omega)
        exact ⟨b', o', h'⟩
      subst hbd
      obtain ⟨_, _, hs4, _, _, _, hc4⟩ := id hd4
      simp only [Value.slice.injEq, true_and] at hs4
      obtain ⟨rfl, rfl⟩ := hs4
      have hE10 : E + 10 ≤ data.length := by omega
      obtain ⟨x4, hx4⟩ : ∃ x, ((data[E + 4]?.getD 0).toNat) = x := ⟨_, rfl⟩
      obtain ⟨x5, hx5⟩ : ∃ x, ((data[E + 5]?.getD 0).toNat) = x := ⟨_, rfl⟩
      have b4 : x4 ≤ 255 := by rw [← hx4]; have := (data[E + 4]?.getD 0).toNat_lt; omega
      have b5 : x5 ≤ 255 := by rw [← hx5]; have := (data[E + 5]?.getD 0).toNat_lt; omega
      have c4 : w4.cell? ⟨bd, od + (E + 4), none⟩ = some (.int .u8 (x4 : Int)) := by
        obtain ⟨b', o', h', _, hc⟩ := hc4 (E + 4) (by omega)
        simp only [Option.some.injEq, Addr.mk.injEq, and_true] at h'
        obtain ⟨rfl, rfl⟩ := h'
        rw [hc, B, hx4]
      have c5 : w4.cell? ⟨bd, od + (E + 5), none⟩ = some (.int .u8 (x5 : Int)) := by
        obtain ⟨b', o', h', _, hc⟩ := hc4 (E + 5) (by omega)
        simp only [Option.some.injEq, Addr.mk.injEq, and_true] at h'
        obtain ⟨rfl, rfl⟩ := h'
        rw [hc, B, hx5]
      clear hx4 hx5 hc4 h10
      obtain ⟨S, hS⟩ : ∃ S : Nat, x4 + 256 * x5 = S := ⟨_, rfl⟩
      have hS' : (x4 : Int) + 256 * (x5 : Int) = (S : Int) := by omega
      have w1 : IntKind.i64.wrap ((E : Int) + 4) = (E : Int) + 4 := IntWalk.i64_in _ (by omega)
      have w2 : IntKind.i64.wrap ((E : Int) + 5) = (E : Int) + 5 := IntWalk.i64_in _ (by omega)
      have w3 : IntKind.i64.wrap (256 * (x5 : Int)) = 256 * (x5 : Int) := IntWalk.i64_in _ (by omega)
      have w5 : IntKind.i64.wrap ((S : Int)) = (S : Int) := IntWalk.i64_in _ (by omega)
      have i1 : 0 ≤ (E : Int) + 4 := by omega
      have i2 : 0 ≤ (E : Int) + 5 := by omega
      have i3 : (E : Int) + 4 < (data.length : Int) := by omega
      have i4 : (E : Int) + 5 < (data.length : Int) := by omega
      have i5 : ((E : Int) + 4).toNat = E + 4 := by omega
      have i6 : ((E : Int) + 5).toNat = E + 5 := by omega
      go_wp2_with fail
      go_quiet (fail)
      clear w1 w2 w3 w5 i1 i2 i3 i4 i5 i6 hS' c4 c5 b4 b5 hS
      have hq5 : Below w.heap.size w (w4.drewN nq) := hq4.trans (below_drewN' nq)
      have hd5 := hd4.drewN nq
      by_cases h6 : 4096 < S
      · have t6 : decide ((4096 : Int) < (S : Int)) = true := by simp; omega
        clear h6
        go_wp2_with fail
        go_ret
        exact ⟨rfl, hq5⟩
      have t6 : decide ((4096 : Int) < (S : Int)) = false := by simp; omega
      have hS13 : S ≤ 2 ^ 13 - 1 := by omega
      by_cases h7 : (data.length : Int) - (E : Int) < (S : Int) + 10
      · have t7 : decide ((data.length : Int) - (E : Int) < (S : Int) + 10) = true := by simp; omega
        clear h6 h7
        go_wp2_with fail
        go_ret
        exact ⟨rfl, hq5⟩
      have t7 : decide ((data.length : Int) - (E : Int) < (S : Int) + 10) = false := by simp; omega
      have hS4 : S ≤ 2 ^ 12 := by omega
      have hES : E + S + 10 ≤ data.length := by omega
      have hns := scan_stop HP.out S (by omega) (by omega) (by rw [HE.out]; omega)
      rw [HE.out] at hns
      have hd6 := hd5.sub (E + 6) S (by omega)
      have hd7 := hd5.sub E (S + 10) (by omega)
      have e6 : (some (⟨bd, od, none⟩ : Addr)).map (fun x => x.add (E + 6)) = some ⟨bd, od + (E + 6), none⟩ := by simp [Addr.add]
      have e7 : (some (⟨bd, od, none⟩ : Addr)).map (fun x => x.add E) = some ⟨bd, od + E, none⟩ := by
        simp only [Option.map_some, Addr.add]
        split
        · rename_i h0; subst h0; rfl
        · rfl
      rw [e6] at hd6
      rw [e7] at hd7
      have hql : ((data.drop (E + 6)).take S).length = S := by simp; omega
      have HN := Lib.hid hns; have HQL := Lib.hid hql
      clear hns e6 e7 h6 h7 hql
      have w1 : IntKind.i64.wrap ((E : Int) + 6) = (E : Int) + 6 := IntWalk.i64_in _ (by omega)
      have w2 : IntKind.i64.wrap ((E : Int) + 6 + (S : Int)) = (E : Int) + 6 + (S : Int) := IntWalk.i64_in _ (by omega)
      have i1 : ((E : Int) + 6).toNat = E + 6 := by omega
      have i2 : ((E : Int) + 6 + (S : Int)).toNat = E + 6 + S := by omega
      have i3 : 0 ≤ (E : Int) + 6 := by omega
      have i4 : (E : Int) + 6 ≤ (E : Int) + 6 + (S : Int) := by omega
      have i5 : (E : Int) + 6 + (S : Int) ≤ (cap : Int) := by omega
      have i6 : E + 6 < cap := by omega
      go_wp2_with fail
      clear w1 w2 i1 i2 i3 i4 i5 i6
      have hd6 : Byts w4.heap.size (w4.drewN nq) (.slice (some ⟨bd, od + (E + 6), none⟩) S (cap - (E + 6))) ((data.drop (E + 6)).take S) := hd6
      refine (form_at w4.heap.size _ _ (ps.length + 1) _ _ hd6 (Nat.le_refl _) (by simp) (by omega) (by omega) (by rw [HQL.out]; omega)).mono ?_
      rintro e w6 ⟨fa, fc, rfl, ho6, hb6⟩
      have hby := ho6.byts
      rw [formOf_length, HQL.out] at hby ⊢
      have hd8 := hd7.below hb6 hb6.size
      have hq6 : Below w.heap.size w w6 := hq5.trans (hb6.mono hq5.size)
      obtain ⟨_, _, hs6, hl6, hm6, _⟩ := id hby
      rw [formOf_length, HQL.out] at hs6 hl6
      simp only [Value.slice.injEq, true_and] at hs6
      obtain ⟨rfl, rfl⟩ := hs6
      obtain ⟨L, hL⟩ : ∃ L, 10 + S = L := ⟨_, rfl⟩
      have hL' : S + 10 = L := by omega
      rw [hL'] at hd8
      rw [hL] at hby hl6 ⊢
      have hne : (formOf (ps.length + 1) ((data.drop (E + 6)).take S) == (data.drop E).take L) = false := by
        rw [beq_eq_false_iff_ne, ← hL']; exact HN.out
      obtain ⟨A1, hA1⟩ : ∃ A, formOf (ps.length + 1) ((data.drop (E + 6)).take S) = A := ⟨_, rfl⟩
      obtain ⟨A2, hA2⟩ : ∃ A, (data.drop E).take L = A := ⟨_, rfl⟩
      rw [hA1] at hby hne
      rw [hA2] at hd8 hne
      clear hA1 hA2 hd6 hd7 hd5 hd4 ho6
      have s1 : ∀ m, (convert 25 9 (.slice fa L fc)).run Try.prog (w6.drewN m) = .ok (.string ⟨A1.toArray⟩) (w6.drewN m) := fun m => conv_str (hby.drewN m)
      have s2 : ∀ m, (convert 25 9 (.slice (some ⟨bd, od + E, none⟩) L (cap - E))).run Try.prog (w6.drewN m) = .ok (.string ⟨A2.toArray⟩) (w6.drewN m) := fun m => conv_str (hd8.drewN m)
      have u1 : IntKind.i64.wrap ((E : Int) + (S : Int)) = (E : Int) + (S : Int) := IntWalk.i64_in _ (by omega)
      have u2 : IntKind.i64.wrap ((E : Int) + (S : Int) + 10) = (E : Int) + (S : Int) + 10 := IntWalk.i64_in _ (by omega)
      have u3 : ((E : Int) + (S : Int) + 10).toNat = E + L := by omega
      have u4 : 0 ≤ (E : Int) + (S : Int) + 10 := by omega
      have u5 : (E : Int) ≤ (E : Int) + (S : Int) + 10 := by omega
      have u6 : (E : Int) + (S : Int) + 10 ≤ (cap : Int) := by omega
      have u7 : E < cap := by omega
      go_wp2_with fail
      go_quiet (fail)
      go_wp2_with fail
      go_ret
      exact ⟨rfl, hq6.trans (below_drewN' nq)⟩
end Go.Proofs.Ytkdlimigepkepaa
