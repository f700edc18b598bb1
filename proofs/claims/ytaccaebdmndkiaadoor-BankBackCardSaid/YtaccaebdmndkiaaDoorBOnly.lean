/- BankOnly: the walk. No conditions beyond those stated. -/
import Derived.Test.YtaccaebdmndkiaaDoorBReadF
import Derived.Test.YtaccaebdmndkiaaDoorBReadA
import Derived.Test.YtaccaebdmndkiaaDoorBAwake
namespace Go.Proofs.YtaccaebdmndkiaaDoor
open Go.RowKit
set_option linter.unusedVariables false

theorem writeS_ok {f : Fi} (h : okF f = true) : writeS f = (textF f, 0) := by rw [writeS, if_pos h]
theorem writeAS_ok {f : An} (h : okA f = true) : writeAS f = (textA f, 0) := by rw [writeAS, if_pos h]

set_option maxRecDepth 100000 in
set_option maxHeartbeats 2000000 in
theorem only_walk (s : ByteArray) (w : World) (hs : s.size ≤ maxLen) (hT : Tabs w.heap.size w) (hM : MaxI w.heap.size w) :
    Calls Tryd.prog 8 #[.string s] w fun e w' => e = .returned (.bool true) ∧ Below w.heap.size w w' := by
  obtain ⟨l, hl⟩ : ∃ l, s.data.toList = l := ⟨_, rfl⟩
  have hsl := size_of hl
  have hst := toList_of hl
  unfold maxLen at hs
  have ha := awake_any w hT
  go_enter Tryd.func8, Tryd.ntmps8
  go_wp2_with fail
  refine ha.mono ?_
  rintro e w1 ⟨rfl, hb1⟩
  clear ha
  have HSL := Lib.hid hsl
  have HST := Lib.hid hst
  have hT1 := hT.up hb1 hb1.size
  have hM1 := hM.up hb1 hb1.size
  by_cases hlen : s.size ≤ 3000
  case neg =>
    have hlen' : 3000 < s.size := by omega
    clear hsl hst hl hlen
    go_wp2_with fail
    go_ret
    exact ⟨rfl, hb1⟩
  have h1 := readF_any s w1 (by omega) hT1 hM1
  rw [hl] at h1
  obtain ⟨⟨fn, fd, fo⟩, e1, hf⟩ : ∃ f e1, readF l = (f, e1) := ⟨_, _, rfl⟩
  obtain ⟨⟨an, ad, rs⟩, e2, hfa⟩ : ∃ f e1, readA l = (f, e1) := ⟨_, _, rfl⟩
  rw [hf] at h1
  dsimp only at h1
  have HF := Lib.hid hf
  have HA := Lib.hid hfa
  have HL := Lib.hid hl
  clear hsl hst hf hfa hl
  go_wp2_with fail
  refine h1.mono ?_
  rintro e w2 ⟨ov, rfl, hov, hb2⟩
  have hol : ∃ p c, ov = .slice p fo.length c := by obtain ⟨p, c, h, _⟩ := hov; exact ⟨p, c, h⟩
  obtain ⟨op, oc, rfl⟩ := hol
  clear h1
  have hb12 := hb1.trans (hb2.mono hb1.size)
  have hbx : Below w2.heap.size w2 (w2.alloc (.cells #[.int .i64 fn, .int .i64 fd, .slice op fo.length oc] 24)) := (Below.refl _ _).alloc (Nat.le_refl _) _
  have qf := Blk.new w2 #[.int .i64 fn, .int .i64 fd, .slice op fo.length oc] 24
  obtain ⟨W2, hW2⟩ : ∃ W2, w2.alloc (.cells #[.int .i64 fn, .int .i64 fd, .slice op fo.length oc] 24) = W2 := ⟨_, rfl⟩
  rw [hW2] at hbx qf
  have HW2 := Lib.hid hW2
  have hbW2 := hb12.trans (hbx.mono hb12.size)
  have hT2 := hT.up hbW2 hbW2.size
  have hM2 := hM.up hbW2 hbW2.size
  have hov2 : Ords W2.heap.size W2 (.slice op fo.length oc) fo := Recs.below hov hbx (Nat.le_refl _) hbx.size
  have h2 := readA_any s W2 (by omega) hT2 hM2
  rw [HL.out, HA.out] at h2
  dsimp only at h2
  clear hW2 hov
  go_wp2_with fail
  rw [HW2.out]
  refine h2.mono ?_
  rintro e w3 ⟨oa, rfl, hoa, hb3⟩
  have hal : ∃ p c, oa = .slice p rs.length c := by obtain ⟨p, c, h, _⟩ := hoa; exact ⟨p, c, h⟩
  obtain ⟨ap, ac, rfl⟩ := hal
  clear h2
  have hb13 := hbW2.trans (hb3.mono hbW2.size)
  have hby : Below w3.heap.size w3 (w3.alloc (.cells #[.int .i64 an, .int .i64 ad, .slice ap rs.length ac] 27)) := (Below.refl _ _).alloc (Nat.le_refl _) _
  have qa := Blk.new w3 #[.int .i64 an, .int .i64 ad, .slice ap rs.length ac] 27
  obtain ⟨W3, hW3⟩ : ∃ W3, w3.alloc (.cells #[.int .i64 an, .int .i64 ad, .slice ap rs.length ac] 27) = W3 := ⟨_, rfl⟩
  rw [hW3] at hby qa
  have HW3 := Lib.hid hW3
  have hbW3 := hb13.trans (hby.mono hb13.size)
  have hb23 : Below W2.heap.size W2 W3 := hb3.trans (hby.mono hb3.size)
  have qf3 := qf.below hb23 qf.lt
  have hov3 : Ords W3.heap.size W3 (.slice op fo.length oc) fo := Recs.below hov2 hb23 (Nat.le_refl _) hb23.size
  have hoa3 : Rets W3.heap.size W3 (.slice ap rs.length ac) rs := Recs.below hoa hby (Nat.le_refl _) hby.size
  have hT3 := hT.up hbW3 hbW3.size
  obtain ⟨f0, f1, f2⟩ := (qf.below hb3 qf.lt).three
  have hlt23 : w2.heap.size < w3.heap.size := (qf.below hb3 qf.lt).lt
  clear hW3 hov2 hoa hT1 hM1 hT2 hM2
  by_cases he1 : e1 = 0
  case pos =>
    have hok := readF_ok (l := l) (by rw [HF.out]; exact he1)
    rw [HF.out] at hok
    dsimp only at hok
    have hz : readA l = (An.z, 360) := by rw [← hok.2]; exact readA_textF hok.1
    rw [HA.out] at hz
    simp only [An.z, Prod.mk.injEq, An.mk.injEq] at hz
    obtain ⟨⟨rfl, rfl, rfl⟩, rfl⟩ := hz
    have hw3 := HW3.out
    rw [List.length_nil] at hw3
    have HW3 := Lib.hid hw3
    clear hw3
    have hv := valid_any W3.heap.size (.slice op fo.length oc) fn fd fo
    have hw := write_any W3.heap.size fn fd fo (.slice op fo.length oc) W3 hov3 (Nat.le_refl _) hT3
    have hws : writeS ⟨fn, fd, fo⟩ = (l, 0) := by rw [← hok.2]; exact writeS_ok hok.1
    rw [hws] at hw
    dsimp only at hw
    have hls : (⟨l.toArray⟩ : ByteArray) = s := (bytes_eq HL.out).symm
    rw [hls] at hw
    have hokf : okF ⟨fn, fd, fo⟩ = true := hok.1
    rw [hokf] at hv
    have hne : (!s.toList == s.toList) = false := by simp
    subst he1
    clear hok hws hls hokf
    go_wp2_with fail
    rw [HW3.out]
    refine hw.mono ?_
    rintro e w4 ⟨rfl, hb4⟩
    clear hw
    have hov4 : Ords W3.heap.size w4 (.slice op fo.length oc) fo := Recs.below hov3 hb4 (Nat.le_refl _) (Nat.le_refl _)
    have qf4 := qf3.below hb4 qf3.lt
    have qa4 := qa.below hb4 qa.lt
    clear f0 f1 f2
    obtain ⟨f0, f1, f2⟩ := qf4.three
    obtain ⟨a0, a1, a2⟩ := qa4.three
    go_wp2_with fail
    refine (hv w4 hov4 hb4.size).mono ?_
    rintro e w5 ⟨rfl, hb5⟩
    have qa5 := qa4.below hb5 qa4.lt
    clear f0 f1 f2 a0 a1 a2 hv
    obtain ⟨a0, a1, a2⟩ := qa5.three
    have hbf := (hbW3.trans (hb4.mono hbW3.size)).trans (hb5.mono (Nat.le_trans hbW3.size hb4.size))
    go_wp2_with fail
    go_ret
    exact ⟨rfl, hbf⟩
  case neg =>
    have hz1 := readF_err (l := l) (by rw [HF.out]; exact he1)
    rw [HF.out] at hz1
    simp only [Fi.z, Fi.mk.injEq] at hz1
    obtain ⟨rfl, rfl, rfl⟩ := hz1
    have hne : (e1 == 0) = false := by rw [beq_eq_false_iff_ne]; exact he1
    have hne1 : (e1 != 0) = true := by rw [bne_iff_ne]; exact he1
    by_cases he2 : e2 = 0
    case neg =>
      have hz2 := readA_err (l := l) (by rw [HA.out]; exact he2)
      rw [HA.out] at hz2
      simp only [An.z, An.mk.injEq] at hz2
      obtain ⟨rfl, rfl, rfl⟩ := hz2
      have hw3 := HW3.out
      rw [List.length_nil] at hw3
      have HW3 := Lib.hid hw3
      clear hw3
      have hne2 : (e2 != 0) = true := by rw [bne_iff_ne]; exact he2
      clear he1 he2
      go_wp2_with fail
      go_ret
      rw [HW3.out]
      exact ⟨rfl, hbW3⟩
    case pos =>
      have hok := readA_ok (l := l) (by rw [HA.out]; exact he2)
      rw [HA.out] at hok
      dsimp only at hok
      have hv := right_any W3.heap.size (.slice ap rs.length ac) an ad rs
      have hw := writeA_any W3.heap.size an ad rs (.slice ap rs.length ac) W3 hoa3 (Nat.le_refl _) hT3
      have hws : writeAS ⟨an, ad, rs⟩ = (l, 0) := by rw [← hok.2]; exact writeAS_ok hok.1
      rw [hws] at hw
      dsimp only at hw
      have hls : (⟨l.toArray⟩ : ByteArray) = s := (bytes_eq HL.out).symm
      rw [hls] at hw
      have hokf : okA ⟨an, ad, rs⟩ = true := hok.1
      rw [hokf] at hv
      have heq : (s.toList == s.toList) = true := by simp
      subst he2
      clear hok hws hls hokf he1
      go_wp2_with fail
      rw [HW3.out]
      refine hw.mono ?_
      rintro e w4 ⟨rfl, hb4⟩
      clear hw
      have hoa4 : Rets W3.heap.size w4 (.slice ap rs.length ac) rs := Recs.below hoa3 hb4 (Nat.le_refl _) (Nat.le_refl _)
      have qa4 := qa.below hb4 qa.lt
      clear f0 f1 f2
      obtain ⟨a0, a1, a2⟩ := qa4.three
      go_wp2_with fail
      refine (hv w4 hoa4 hb4.size).mono ?_
      rintro e w5 ⟨rfl, hb5⟩
      have hbf := (hbW3.trans (hb4.mono hbW3.size)).trans (hb5.mono (Nat.le_trans hbW3.size hb4.size))
      clear hv
      go_wp2_with fail
      go_ret
      exact ⟨rfl, hbf⟩
end Go.Proofs.YtaccaebdmndkiaaDoor
