/- The statements' functions accepted and text of layer 36. No conditions beyond those stated. -/
import Derived.Test.YtaccaebdmndkiaaDoorBOnly
import Derived.Test.YtaccaebdmndkiaaDoorBRdChg
namespace Go.Proofs.YtaccaebdmndkiaaDoor
open Go.RowKit
set_option linter.unusedVariables false

set_option maxRecDepth 100000 in
set_option maxHeartbeats 2000000 in
theorem accepted_any (s : ByteArray) (w : World) (hs : s.size ≤ 2 ^ 40) (hT : Tabs w.heap.size w) (hM : MaxI w.heap.size w) :
    Calls Tryd.prog 19 #[.string s] w fun e w' => e = .returned (.bool (taken s.data.toList)) ∧ Below w.heap.size w w' := by
  obtain ⟨l, hl⟩ : ∃ l, s.data.toList = l := ⟨_, rfl⟩
  have h1 := readF_any s w hs hT hM
  have h2 := fun W hT hM => readA_any s W hs hT hM
  rw [hl] at h1 h2 ⊢
  obtain ⟨⟨fn, fd, fo⟩, e1, hf⟩ : ∃ f e1, readF l = (f, e1) := ⟨_, _, rfl⟩
  obtain ⟨⟨an, ad, rs⟩, e2, hfa⟩ : ∃ f e1, readA l = (f, e1) := ⟨_, _, rfl⟩
  have hres : taken l = (e1 == 0 || e2 == 0) := by unfold taken; rw [hf, hfa]
  rw [hf] at h1
  rw [hfa] at h2
  obtain ⟨x, hx⟩ : ∃ x, (e1 == 0) = x := ⟨_, rfl⟩
  obtain ⟨y, hy⟩ : ∃ y, (e2 == 0) = y := ⟨_, rfl⟩
  rw [hres, hx, hy]
  dsimp only at h1 h2
  clear hf hfa hres hl
  go_enter Tryd.func19, Tryd.ntmps19
  go_wp2_with fail
  refine h1.mono ?_
  rintro e w2 ⟨ov, rfl, hov, hb2⟩
  have hol : ∃ p c, ov = .slice p fo.length c := by obtain ⟨p, c, h, _⟩ := hov; exact ⟨p, c, h⟩
  obtain ⟨op, oc, rfl⟩ := hol
  have hbx : Below w2.heap.size w2 (w2.alloc (.cells #[.int .i64 fn, .int .i64 fd, .slice op fo.length oc] 24)) := (Below.refl _ _).alloc (Nat.le_refl _) _
  have hbW2 := hb2.trans (hbx.mono hb2.size)
  have h2 := h2 _ (hT.up hbW2 hbW2.size) (hM.up hbW2 hbW2.size)
  clear h1
  go_wp2_with fail
  refine h2.mono ?_
  rintro e w3 ⟨oa, rfl, hoa, hb3⟩
  have hal : ∃ p c, oa = .slice p rs.length c := by obtain ⟨p, c, h, _⟩ := hoa; exact ⟨p, c, h⟩
  obtain ⟨ap, ac, rfl⟩ := hal
  have hb13 := hbW2.trans (hb3.mono hbW2.size)
  have hbf := hb13.alloc hb13.size (.cells #[.int .i64 an, .int .i64 ad, .slice ap rs.length ac] 27)
  clear h2
  cases x with
  | true =>
    go_wp2_with fail
    go_ret
    exact ⟨rfl, hbf⟩
  | false =>
    go_wp2_with fail
    go_ret
    exact ⟨ret_bool (by simp), hbf⟩

/-- What text gives. -/
def textS (f : Fi) (a : An) (ans : Bool) : List UInt8 := if 30 < f.ods.length ∨ 30 < a.rts.length then [] else if ans = true then (writeAS a).1 else (writeS f).1
theorem textS_acc {f : Fi} {a : An} {ans : Bool} (h : textS f a ans ≠ []) : taken (textS f a ans) = true ∧ (textS f a ans).length ≤ 100122 := by
  unfold textS at h ⊢
  by_cases h1 : 30 < f.ods.length ∨ 30 < a.rts.length
  · rw [if_pos h1] at h; exact absurd rfl h
  rw [if_neg h1] at h ⊢
  by_cases h2 : ans = true
  · rw [if_pos h2] at h ⊢
    by_cases h3 : okA a = true
    · rw [writeAS_ok h3]
      refine ⟨?_, ?_⟩
      · unfold taken; rw [readA_text h3]; simp
      · have := bodyA_len h3; simp only [textA, List.length_append, endB_length]; omega
    · rw [writeAS, if_neg h3] at h; exact absurd rfl h
  · rw [if_neg h2] at h ⊢
    by_cases h3 : okF f = true
    · rw [writeS_ok h3]
      refine ⟨?_, ?_⟩
      · unfold taken; rw [readF_text h3]; simp
      · have := bodyF_len h3; simp only [textF, List.length_append, endB_length]; omega
    · rw [writeS, if_neg h3] at h; exact absurd rfl h

set_option maxRecDepth 100000 in
set_option maxHeartbeats 2000000 in
theorem text_any (K : Nat) (n d : Int) (l : List Od) (v : Value) (an ad : Int) (rs : List Rt) (u : Value) (ans : Bool) (w : World) (hv : Ords K w v l) (hu : Rets K w u rs) (hK : K ≤ w.heap.size) (hT : Tabs w.heap.size w) :
    Calls Tryd.prog 18 #[.agg #[.int .i64 n, .int .i64 d, v], .agg #[.int .i64 an, .int .i64 ad, u], .bool ans] w fun e w' => e = .returned (.string ⟨(textS ⟨n, d, l⟩ ⟨an, ad, rs⟩ ans).toArray⟩) ∧ Below w.heap.size w w' := by
  have hvl : ∃ a cap, v = .slice a l.length cap := by obtain ⟨a, cap, rfl, _⟩ := hv; exact ⟨a, cap, rfl⟩
  obtain ⟨va, vcap, rfl⟩ := hvl
  have hul : ∃ a cap, u = .slice a rs.length cap := by obtain ⟨a, cap, rfl, _⟩ := hu; exact ⟨a, cap, rfl⟩
  obtain ⟨ua, ucap, rfl⟩ := hul
  have hb1 : Below w.heap.size w ((w.alloc (.cells #[.int .i64 n, .int .i64 d, .slice va l.length vcap] 24)).alloc (.cells #[.int .i64 an, .int .i64 ad, .slice ua rs.length ucap] 27)) := ((Below.refl _ w).alloc (Nat.le_refl _) _).alloc (by simp) _
  have q1 := (Blk.new w #[.int .i64 n, .int .i64 d, .slice va l.length vcap] 24).alloc (.cells #[.int .i64 an, .int .i64 ad, .slice ua rs.length ucap] 27)
  have q2 := Blk.new (w.alloc (.cells #[.int .i64 n, .int .i64 d, .slice va l.length vcap] 24)) #[.int .i64 an, .int .i64 ad, .slice ua rs.length ucap] 27
  rw [World.size_alloc] at q2
  have hT1 := hT.up hb1 hb1.size
  have hv1 : Ords _ _ (.slice va l.length vcap) l := Recs.below hv hb1 hK (Nat.le_trans hK hb1.size)
  have hu1 : Rets _ _ (.slice ua rs.length ucap) rs := Recs.below hu hb1 hK (Nat.le_trans hK hb1.size)
  have hw := write_any _ n d l _ _ hv1 (Nat.le_refl _) hT1
  have hwa := writeA_any _ an ad rs _ _ hu1 (Nat.le_refl _) hT1
  by_cases h1 : 30 < l.length
  case pos =>
    have ht : textS ⟨n, d, l⟩ ⟨an, ad, rs⟩ ans = [] := by unfold textS; rw [if_pos (.inl h1)]
    have HT := Lib.hid ht
    have g1 : decide ((30 : Int) < (l.length : Int)) = true := decide_eq_true (by omega)
    clear ht hw hwa h1 q1 q2
    go_enter Tryd.func18, Tryd.ntmps18
    go_wp2_with fail
    go_ret
    exact ⟨by rw [HT.out]; rfl, hb1⟩
  case neg =>
    have g1 : decide ((30 : Int) < (l.length : Int)) = false := decide_eq_false (by omega)
    by_cases h2 : 30 < rs.length
    case pos =>
      have ht : textS ⟨n, d, l⟩ ⟨an, ad, rs⟩ ans = [] := by unfold textS; rw [if_pos (.inr h2)]
      have HT := Lib.hid ht
      have g2 : decide ((30 : Int) < (rs.length : Int)) = true := decide_eq_true (by omega)
      clear ht hw hwa h1 h2 q1 q2
      go_enter Tryd.func18, Tryd.ntmps18
      go_wp2_with fail
      go_ret
      exact ⟨by rw [HT.out]; rfl, hb1⟩
    case neg =>
      have g2 : decide ((30 : Int) < (rs.length : Int)) = false := decide_eq_false (by omega)
      have ht : textS ⟨n, d, l⟩ ⟨an, ad, rs⟩ ans = if ans = true then (writeAS ⟨an, ad, rs⟩).1 else (writeS ⟨n, d, l⟩).1 := by unfold textS; rw [if_neg (by simp; omega)]
      have HT := Lib.hid ht
      clear ht h1 h2 q1 q2
      cases ans with
      | true =>
        go_enter Tryd.func18, Tryd.ntmps18
        go_wp2_with fail
        refine hwa.mono ?_
        rintro e w2 ⟨rfl, hb2⟩
        clear hw hwa
        go_wp2_with fail
        go_ret
        refine ⟨?_, hb1.trans (hb2.mono hb1.size)⟩
        rw [HT.out]; rfl
      | false =>
        go_enter Tryd.func18, Tryd.ntmps18
        go_wp2_with fail
        refine hw.mono ?_
        rintro e w2 ⟨rfl, hb2⟩
        clear hw hwa
        go_wp2_with fail
        go_ret
        refine ⟨?_, hb1.trans (hb2.mono hb1.size)⟩
        rw [HT.out]; rfl
end Go.Proofs.YtaccaebdmndkiaaDoor
