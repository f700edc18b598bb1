/- BankMatch: the walk. No conditions beyond the readings of the arguments. -/
import Derived.Test.YtaccaebdmndkiaaDoorBMat1
import Derived.Test.YtaccaebdmndkiaaDoorBAwake
import Derived.Maps.OwnSet
namespace Go.Proofs.YtaccaebdmndkiaaDoor
open Go.RowKit Go.Maps
set_option linter.unusedVariables false

theorem ownsMap_below {w w' : World} {k : TypeId} {R : Value → Option (DataW Unit × List MemPlace)} {b n : Nat} {D : DataW Unit} (h : w.ownsMap Tryd.prog k R b n D) (hb : Below w.heap.size w w') : w'.ownsMap Tryd.prog k R b n D :=
  h.kept (row := none) ⟨hb.os, hb.tape, hb.output, hb.size, fun i hi _ => hb.block i hi⟩ (by simp)
theorem wf_num {o : Od} (h : okOd o = true) : (Lit.int .i64 o.num).wf = true := by
  have := (okOd_iff o).1 h
  exact WalkArith.wf_i64 (by omega)
theorem wf_ord {r : Rt} (h : okRt r = true) : (Lit.int .i64 r.ord).wf = true := by
  simp [okRt, okNum] at h
  exact WalkArith.wf_i64 (by omega)
theorem two_of {w : World} {b o k : Nat} {rt : Rt} (hc : ∀ j, j < 2 → w.cell? ⟨b, o + (k * 2 + j), none⟩ = some (.int .i64 (rt.fld j))) :
    w.cell? ⟨b, o + k * 2, none⟩ = some (.int .i64 rt.ord) ∧ w.cell? ⟨b, o + k * 2 + 1, none⟩ = some (.int .i64 rt.why) :=
  ⟨hc 0 (by omega), hc 1 (by omega)⟩
theorem five_of {w : World} {b o k : Nat} {od : Od} (hc : ∀ j, j < 5 → w.cell? ⟨b, o + (k * 5 + j), none⟩ = some (.int .i64 (od.fld j))) :
    w.cell? ⟨b, o + k * 5, none⟩ = some (.int .i64 od.num) ∧ w.cell? ⟨b, o + k * 5 + 1, none⟩ = some (.int .i64 od.acc) ∧ w.cell? ⟨b, o + k * 5 + 2, none⟩ = some (.int .i64 od.gross) ∧
    w.cell? ⟨b, o + k * 5 + 3, none⟩ = some (.int .i64 od.tax) ∧ w.cell? ⟨b, o + k * 5 + 4, none⟩ = some (.int .i64 od.net) :=
  ⟨hc 0 (by omega), hc 1 (by omega), hc 2 (by omega), hc 3 (by omega), hc 4 (by omega)⟩

set_option maxRecDepth 100000 in
set_option maxHeartbeats 4000000 in
theorem matchL_walk (K : Nat) (n d : Int) (l : List Od) (v : Value) (an ad : Int) (rs : List Rt) (u : Value) (w : World) (hv : Ords K w v l) (hu : Rets K w u rs) (hK : K ≤ w.heap.size) (hT : Tabs w.heap.size w) :
    Calls Tryd.prog 4 #[.agg #[.int .i64 n, .int .i64 d, v], .agg #[.int .i64 an, .int .i64 ad, u]] w fun e w' => e = .returned (.bool true) ∧ Below w.heap.size w w' := by
  have hvl : ∃ a cap, v = .slice a l.length cap := by obtain ⟨a, cap, rfl, _⟩ := hv; exact ⟨a, cap, rfl⟩
  obtain ⟨va, vcap, rfl⟩ := hvl
  have hul : ∃ a cap, u = .slice a rs.length cap := by obtain ⟨a, cap, rfl, _⟩ := hu; exact ⟨a, cap, rfl⟩
  obtain ⟨ua, ucap, rfl⟩ := hul
  have hb1 : Below w.heap.size w ((w.alloc (.cells #[.int .i64 n, .int .i64 d, .slice va l.length vcap] 24)).alloc (.cells #[.int .i64 an, .int .i64 ad, .slice ua rs.length ucap] 27)) := ((Below.refl _ w).alloc (Nat.le_refl _) _).alloc (by simp) _
  have q1 := (Blk.new w #[.int .i64 n, .int .i64 d, .slice va l.length vcap] 24).alloc (.cells #[.int .i64 an, .int .i64 ad, .slice ua rs.length ucap] 27)
  have q2 := Blk.new (w.alloc (.cells #[.int .i64 n, .int .i64 d, .slice va l.length vcap] 24)) #[.int .i64 an, .int .i64 ad, .slice ua rs.length ucap] 27
  rw [World.size_alloc] at q2
  obtain ⟨W1, hW1⟩ : ∃ W1, (w.alloc (.cells #[.int .i64 n, .int .i64 d, .slice va l.length vcap] 24)).alloc (.cells #[.int .i64 an, .int .i64 ad, .slice ua rs.length ucap] 27) = W1 := ⟨_, rfl⟩
  rw [hW1] at hb1 q1 q2
  have HW1 := Lib.hid hW1
  clear hW1
  have hs1 := q2.lt
  have hT1 := hT.up hb1 hb1.size
  have hv1 : Ords W1.heap.size W1 (.slice va l.length vcap) l := Recs.below hv hb1 hK (Nat.le_trans hK hb1.size)
  have hu1 : Rets W1.heap.size W1 (.slice ua rs.length ucap) rs := Recs.below hu hb1 hK (Nat.le_trans hK hb1.size)
  clear hv hu hT
  obtain ⟨d0, d1, d2⟩ := q1.three
  obtain ⟨e0, e1, e2⟩ := q2.three
  have ha := awake_any W1 hT1
  go_enter Tryd.func4, Tryd.ntmps4
  go_wp2_with fail
  rw [HW1.out]
  refine ha.mono ?_
  rintro e w2 ⟨rfl, hb2⟩
  have hbq := hb1.trans (hb2.mono hb1.size)
  clear ha d0 d1 d2 e0 e1 e2
  obtain ⟨d0, d1, d2⟩ := (q1.below hb2 (by omega)).three
  obtain ⟨e0, e1, e2⟩ := (q2.below hb2 hs1).three
  have hv2 : Ords W1.heap.size w2 (.slice va l.length vcap) l := Recs.below hv1 hb2 (Nat.le_refl _) (Nat.le_refl _)
  have hu2 : Rets W1.heap.size w2 (.slice ua rs.length ucap) rs := Recs.below hu1 hb2 (Nat.le_refl _) (Nat.le_refl _)
  by_cases hsm : l.length ≤ 100 ∧ rs.length ≤ 100
  case neg =>
    have hfin : ∃ x y : Bool, decide ((100 : Int) < (l.length : Int)) = x ∧ decide ((100 : Int) < (rs.length : Int)) = y ∧ (x || y) = true := by
      refine ⟨_, _, rfl, rfl, ?_⟩
      rw [Bool.or_eq_true, decide_eq_true_eq, decide_eq_true_eq]
      omega
    obtain ⟨x, y, hx, hy, hxy⟩ := hfin
    clear hsm
    cases x with
    | true =>
      go_wp2_with fail
      go_ret
      exact ⟨rfl, hbq⟩
    | false =>
      obtain rfl : y = true := by simpa using hxy
      go_wp2_with fail
      go_ret
      exact ⟨rfl, hbq⟩
  case pos =>
    obtain ⟨hl1, hr1⟩ := hsm
    have g1 : decide ((100 : Int) < (l.length : Int)) = false := decide_eq_false (by omega)
    have g2 : decide ((100 : Int) < (rs.length : Int)) = false := decide_eq_false (by omega)
    have hc := valid_any W1.heap.size _ n d l w2 hv2 hb2.size
    go_wp2_with fail
    refine hc.mono ?_
    rintro e w3 ⟨rfl, hb3⟩
    clear hc hv2 hu2 d0 d1 d2 e0 e1 e2 g1 g2
    have hbq3 := hbq.trans (hb3.mono hbq.size)
    have hb3 : Below W1.heap.size W1 w3 := hb2.trans (hb3.mono hb2.size)
    obtain ⟨vb, hvb⟩ : ∃ b, okF ⟨n, d, l⟩ = b := ⟨_, rfl⟩
    rw [hvb]
    cases vb with
    | false =>
      go_wp2_with fail
      go_ret
      exact ⟨rfl, hbq3⟩
    | true =>
    obtain ⟨e0, e1, e2⟩ := (q2.below hb3 hs1).three
    have hc := right_any W1.heap.size _ an ad rs w3 (Recs.below hu1 hb3 (Nat.le_refl _) (Nat.le_refl _)) hb3.size
    go_wp2_with fail
    refine hc.mono ?_
    rintro e w4 ⟨rfl, hb4⟩
    clear hc e0 e1 e2
    have hbq4 := hbq3.trans (hb4.mono hbq3.size)
    have hb4 : Below W1.heap.size W1 w4 := hb3.trans (hb4.mono hb3.size)
    obtain ⟨rb, hrb⟩ : ∃ b, okA ⟨an, ad, rs⟩ = b := ⟨_, rfl⟩
    rw [hrb]
    cases rb with
    | false =>
      go_wp2_with fail
      go_ret
      exact ⟨rfl, hbq4⟩
    | true =>
    obtain ⟨d0, d1, d2⟩ := (q1.below hb4 (by omega)).three
    obtain ⟨e0, e1, e2⟩ := (q2.below hb4 hs1).three
    have hc := match_any W1.heap.size n d l _ an ad rs _ w4 (Recs.below hv1 hb4 (Nat.le_refl _) (Nat.le_refl _)) (Recs.below hu1 hb4 (Nat.le_refl _) (Nat.le_refl _)) hb4.size
    go_wp2_with fail
    refine hc.mono ?_
    rintro e w5 ⟨x, rfl, hx, hb5⟩
    clear hc
    have hbq5 := hbq4.trans (hb5.mono hbq4.size)
    have hb5 : Below W1.heap.size W1 w5 := hb4.trans (hb5.mono hb4.size)
    clear d0 d1 d2 e0 e1 e2
    obtain ⟨d0, d1, d2⟩ := (q1.below hb5 (by omega)).three
    obtain ⟨e0, e1, e2⟩ := (q2.below hb5 hs1).three
    obtain ⟨va', vcap', hvv, _, _, _, hv5⟩ := hv1
    simp only [Value.slice.injEq, true_and] at hvv
    obtain ⟨rfl, rfl⟩ := hvv
    obtain ⟨ua', ucap', huu, _, _, _, hu1⟩ := hu1
    simp only [Value.slice.injEq, true_and] at huu
    obtain ⟨rfl, rfl⟩ := huu
    obtain ⟨_, _, _, hrs⟩ := okA_parts hrb
    dsimp only at hrs
    have hmm := @run_makeMap Tryd.prog
    obtain ⟨hf1, hf2, hf3, hf4, hf5⟩ := okF_parts hvb
    dsimp only at hf1 hf2 hf3 hf4 hf5
    by_cases hot : n ≠ an ∨ ad < d
    case pos =>
      rw [matchS_other hvb hrb hot] at hx ⊢
      dsimp only at hx ⊢
      obtain ⟨xa, xcap, rfl, -⟩ := hx
      have hfin : ∃ x y : Bool, (an != n) = x ∧ decide (ad < d) = y ∧ (x || y) = true := by
        refine ⟨_, _, rfl, rfl, ?_⟩
        rw [Bool.or_eq_true, decide_eq_true_eq, bne_iff_ne]
        rcases hot with h | h
        · exact .inl fun e => h e.symm
        · exact .inr h
      obtain ⟨ob, oc, hob, hoc, hobc⟩ := hfin
      clear hot
      cases ob with
      | true =>
        go_wp2_with fail
        go_loopw [9] (fun i wr => ∃ k : Nat, k ≤ l.length ∧ i = .int .i64 k ∧ wr.ownsMap Tryd.prog 3 oR w5.heap.size k (mapL (l.take k)) ∧ Below w5.heap.size w5 wr) (fun i _ => l.length - (intOf i).toNat)
        case atStart => exact ⟨0, Nat.zero_le _, rfl, World.ownsMap_made _ _ _ _, (Below.refl _ _).alloc (Nat.le_refl _) _⟩
        case round =>
          obtain ⟨k, hk, rfl, hown, hb6⟩ := hrel
          have hbq6 := hbq5.trans (hb6.mono hbq5.size)
          have hb6' : Below W1.heap.size W1 _ := hb5.trans (hb6.mono hb5.size)
          clear d0 d1 d2 e0 e1 e2
          obtain ⟨d0, d1, d2⟩ := (q1.below hb6' (by omega)).three
          obtain ⟨e0, e1, e2⟩ := (q2.below hb6' hs1).three
          by_cases hlt : k < l.length
          · obtain ⟨b, o, rfl, hbl, hcl⟩ := hv5 k hlt
            have hwf : (Lit.int .i64 (l[k]?.getD Od.z).num).wf = true := wf_num (okTo_all hf4 _ (getD_mem hlt Od.z))
            have htk : l.take k ++ [l[k]?.getD Od.z] = l.take (k + 1) := by
              rw [List.take_add_one, List.getElem?_eq_getElem hlt]; rfl
            obtain ⟨od, hod⟩ : ∃ od, l[k]?.getD Od.z = od := ⟨_, rfl⟩
            rw [hod] at hcl hwf htk
            obtain ⟨cn, ca, cg, ct, cm⟩ := five_of hcl
            clear hcl
            have HTK := Lib.hid htk
            have HB6 := Lib.hid hb6
            have HB6' := Lib.hid hb6'
            clear htk hod
            go_upto_region 13 with fail
            refine region_plain (fun W => W = wr.drew) [12] (by kernel_rfl) ?_
            have hbl6 : b < W1.heap.size := hbl
            have d0' : wr.drew.cell? ⟨b, o + k * 5, none⟩ = _ := (hb6'.cell (p := ⟨b, o + k * 5, none⟩) hbl6).trans cn
            have d1' : wr.drew.cell? ⟨b, o + k * 5 + 1, none⟩ = _ := (hb6'.cell (p := ⟨b, o + k * 5 + 1, none⟩) hbl6).trans ca
            have d2' : wr.drew.cell? ⟨b, o + k * 5 + 2, none⟩ = _ := (hb6'.cell (p := ⟨b, o + k * 5 + 2, none⟩) hbl6).trans cg
            have d3' : wr.drew.cell? ⟨b, o + k * 5 + 3, none⟩ = _ := (hb6'.cell (p := ⟨b, o + k * 5 + 3, none⟩) hbl6).trans ct
            have d4' : wr.drew.cell? ⟨b, o + k * 5 + 4, none⟩ = _ := (hb6'.cell (p := ⟨b, o + k * 5 + 4, none⟩) hbl6).trans cm
            have f2' : wr.drew.cell? ⟨w.heap.size, 2, none⟩ = some (.slice (some ⟨b, o, none⟩) l.length vcap) := d2
            have hown0 := hown.drew
            have hb60 := hb6.drew
            obtain ⟨W0, hW0⟩ : ∃ W0, wr.drew = W0 := ⟨_, rfl⟩
            rw [hW0] at d0' d1' d2' d3' d4' f2' hown0 hb60 ⊢
            have q0 : W0 = W0 := rfl
            clear hW0 hown hb6 hb6' d0 d1 d2 e0 e1 e2 hbq6
            obtain ⟨w6, hrun, hown6, hgr⟩ := hown0.update (int_keyed Tryd.underlying3) Tryd.underlying43 (show k < maxLen by unfold maxLen; omega) (keyOf_int_mk Tryd.underlying3 hwf) (oR_mk od)
            refine wpAnyD_take (i := 0) (v := .map (some w5.heap.size)) rfl (by kernel_rfl) (by kernel_rfl) (by kernel_rfl) (by kernel_rfl) (by kernel_rfl) (fun _ _ _ h => h) (.inl ⟨by kernel_rfl, fun W' hS => by go_simp⟩) q0 ?_
            refine wpAnyD_take (i := 1) (v := .pointer (some ⟨w.heap.size, 2, none⟩)) rfl (by kernel_rfl) (by kernel_rfl) (by kernel_rfl) (by kernel_rfl) (by kernel_rfl) (fun _ _ _ h => h) (.inl ⟨by kernel_rfl, fun W' hS => by go_simp⟩) q0 ?_
            refine wpAnyD_take (i := 2) (v := .slice (some ⟨b, o, none⟩) l.length vcap) rfl (by kernel_rfl) (by kernel_rfl) (by kernel_rfl) (by kernel_rfl) (by kernel_rfl) (fun _ _ _ h => h) (.inl ⟨by kernel_rfl, fun W' hS => by subst hS; go_simp⟩) q0 ?_
            refine wpAnyD_take (i := 3) (v := .int .i64 k) rfl (by kernel_rfl) (by kernel_rfl) (by kernel_rfl) (by kernel_rfl) (by kernel_rfl) (fun _ _ _ h => h) (.inl ⟨by kernel_rfl, fun W' hS => by go_simp⟩) q0 ?_
            refine wpAnyD_take (i := 4) (v := .pointer (some ⟨b, o + k * 5, none⟩)) rfl (by kernel_rfl) (by kernel_rfl) (by kernel_rfl) (by kernel_rfl) (by kernel_rfl) (fun _ _ _ h => h) (.inl ⟨by kernel_rfl, fun W' hS => by go_simp⟩) q0 ?_
            refine wpAnyD_take (i := 5) (v := .pointer (some ⟨b, o + k * 5, none⟩)) rfl (by kernel_rfl) (by kernel_rfl) (by kernel_rfl) (by kernel_rfl) (by kernel_rfl) (fun _ _ _ h => h) (.inl ⟨by kernel_rfl, fun W' hS => by go_simp⟩) q0 ?_
            refine wpAnyD_take (i := 6) (v := .int .i64 od.num) rfl (by kernel_rfl) (by kernel_rfl) (by kernel_rfl) (by kernel_rfl) (by kernel_rfl) (fun _ _ _ h => h) (.inl ⟨by kernel_rfl, fun W' hS => by subst hS; go_simp⟩) q0 ?_
            refine wpAnyD_take (i := 7) (v := .pointer (some ⟨w.heap.size, 2, none⟩)) rfl (by kernel_rfl) (by kernel_rfl) (by kernel_rfl) (by kernel_rfl) (by kernel_rfl) (fun _ _ _ h => h) (.inl ⟨by kernel_rfl, fun W' hS => by go_simp⟩) q0 ?_
            refine wpAnyD_take (i := 8) (v := .slice (some ⟨b, o, none⟩) l.length vcap) rfl (by kernel_rfl) (by kernel_rfl) (by kernel_rfl) (by kernel_rfl) (by kernel_rfl) (fun _ _ _ h => h) (.inl ⟨by kernel_rfl, fun W' hS => by subst hS; go_simp⟩) q0 ?_
            refine wpAnyD_take (i := 9) (v := .int .i64 k) rfl (by kernel_rfl) (by kernel_rfl) (by kernel_rfl) (by kernel_rfl) (by kernel_rfl) (fun _ _ _ h => h) (.inl ⟨by kernel_rfl, fun W' hS => by go_simp⟩) q0 ?_
            refine wpAnyD_take (i := 10) (v := .pointer (some ⟨b, o + k * 5, none⟩)) rfl (by kernel_rfl) (by kernel_rfl) (by kernel_rfl) (by kernel_rfl) (by kernel_rfl) (fun _ _ _ h => h) (.inl ⟨by kernel_rfl, fun W' hS => by go_simp⟩) q0 ?_
            refine wpAnyD_take (i := 11) (v := .agg #[.int .i64 od.num, .int .i64 od.acc, .int .i64 od.gross, .int .i64 od.tax, .int .i64 od.net]) rfl (by kernel_rfl) (by kernel_rfl) (by kernel_rfl) (by kernel_rfl) (by kernel_rfl) (fun _ _ _ h => h) (.inl ⟨by kernel_rfl, fun W' hS => by subst hS; go_simp⟩) q0 ?_
            refine wpAnyD_one (i := 12) (by kernel_rfl) rfl (by kernel_rfl) ?_
            go_simp
            refine wpAnyD_done (by kernel_rfl) ?_ _
            go_wp2_with fail
            refine ⟨⟨k + 1, by omega, by go_num, ?_, hb60.grown hgr hb60.size (fun j hj => by cases hj; exact Nat.le_refl _)⟩, by simp [intOf]; omega⟩
            rw [← HTK.out, mapL_snoc]
            exact hown6
          · obtain rfl : k = l.length := by omega
            rw [List.take_length] at hown
            obtain ⟨wm, hwm⟩ : ∃ wm, wr = wm := ⟨_, rfl⟩
            rw [hwm] at hown hb6 hb6' hbq6 d0 d1 d2 e0 e1 e2 ⊢
            clear hwm
            go_wp2_with fail
            go_loopw [10, 11] (fun m i wr => ∃ k : Nat, k ≤ rs.length ∧ i = .int .i64 k ∧ m = .bool (missS l (rs.take k)) ∧ Below wm.heap.size wm wr) (fun _ i _ => rs.length - (intOf i).toNat)
            case atStart => exact ⟨0, Nat.zero_le _, rfl, rfl, Below.refl _ _⟩
            case round =>
              obtain ⟨k, hk, rfl, rfl, hb7⟩ := hrel
              obtain ⟨wl, hwl⟩ : ∃ wl, wr = wl := ⟨_, rfl⟩
              rw [hwl] at hb7 ⊢
              clear hwl
              have hbq7 := hbq6.trans (hb7.mono hbq6.size)
              have hb7' : Below W1.heap.size W1 wl := hb6'.trans (hb7.mono hb6'.size)
              have hown7 : wl.ownsMap Tryd.prog 3 oR w5.heap.size l.length (mapL l) := ownsMap_below hown hb7
              clear d0 d1 d2 e0 e1 e2
              obtain ⟨e0, e1, e2⟩ := (q2.below hb7' hs1).three
              by_cases hlt : k < rs.length
              · obtain ⟨b, o, rfl, hbl, hcl⟩ := hu1 k hlt
                have hwf : (Lit.int .i64 (rs[k]?.getD Rt.z).ord).wf = true := wf_ord (okRs_all hrs _ (getD_mem hlt Rt.z))
                have htk := missS_take l rs k hlt
                obtain ⟨rt, hrt⟩ : ∃ rt, rs[k]?.getD Rt.z = rt := ⟨_, rfl⟩
                rw [hrt] at hcl hwf htk
                obtain ⟨cn, ca⟩ := two_of hcl
                have c0' : wl.cell? ⟨b, o + k * 2, none⟩ = _ := (hb7'.cell (p := ⟨b, o + k * 2, none⟩) hbl).trans cn
                clear hcl
                obtain ⟨mb, hmb⟩ : ∃ mb, missS l (rs.take k) = mb := ⟨_, rfl⟩
                rw [hmb] at htk ⊢
                have HTK := Lib.hid htk
                have HB7 := Lib.hid hb7
                have HB7' := Lib.hid hb7'
                have hfin : ∀ ok (od : Od) (W : World), ok = (lastOf l rt.ord).isSome → Below wl.heap.size wl W → (∃ k' : Nat, k' ≤ rs.length ∧ Value.int .i64 ((k : Int) + 1) = .int .i64 k' ∧ Value.bool (mb || !ok) = .bool (missS l (rs.take k')) ∧ Below wm.heap.size wm W) := by
                  intro ok od W h1 h2
                  subst h1
                  exact ⟨k + 1, by omega, by go_num, by rw [HTK.out], HB7.out.trans (h2.mono HB7.out.size)⟩
                have HF := Lib.hid hfin
                clear hfin htk hrt hmb hb7 hb7'
                cases mb with
                | true =>
                  go_wp2_with (first | (at_lookup; refine wpList_lookup_O rfl _ _ _ rfl _ _ l rfl hown7 _ rfl hwf ?_; intro od ok hok) | fail)
                  go_quiet (fail)
                  go_wp2_with fail
                  refine ⟨HF.out ok od _ hok.out.1 (below_drewN2 ((Below.refl _ _).alloc (Nat.le_refl _) _) _), by simp [intOf]; omega⟩
                | false =>
                  go_wp2_with (first | (at_lookup; refine wpList_lookup_O rfl _ _ _ rfl _ _ l rfl hown7 _ rfl hwf ?_; intro od ok hok) | fail)
                  go_quiet (fail)
                  go_wp2_with fail
                  refine ⟨HF.out ok od _ hok.out.1 (below_drewN2 ((Below.refl _ _).alloc (Nat.le_refl _) _) _), by simp [intOf]; omega⟩
              · obtain rfl : k = rs.length := by omega
                rw [List.take_length]
                go_wp2_with fail
                go_ret
                exact ⟨rfl, hbq7⟩
      | false =>
        obtain rfl : oc = true := by simpa using hobc
        go_wp2_with fail
        go_loopw [9] (fun i wr => ∃ k : Nat, k ≤ l.length ∧ i = .int .i64 k ∧ wr.ownsMap Tryd.prog 3 oR w5.heap.size k (mapL (l.take k)) ∧ Below w5.heap.size w5 wr) (fun i _ => l.length - (intOf i).toNat)
        case atStart => exact ⟨0, Nat.zero_le _, rfl, World.ownsMap_made _ _ _ _, (Below.refl _ _).alloc (Nat.le_refl _) _⟩
        case round =>
          obtain ⟨k, hk, rfl, hown, hb6⟩ := hrel
          have hbq6 := hbq5.trans (hb6.mono hbq5.size)
          have hb6' : Below W1.heap.size W1 _ := hb5.trans (hb6.mono hb5.size)
          clear d0 d1 d2 e0 e1 e2
          obtain ⟨d0, d1, d2⟩ := (q1.below hb6' (by omega)).three
          obtain ⟨e0, e1, e2⟩ := (q2.below hb6' hs1).three
          by_cases hlt : k < l.length
          · obtain ⟨b, o, rfl, hbl, hcl⟩ := hv5 k hlt
            have hwf : (Lit.int .i64 (l[k]?.getD Od.z).num).wf = true := wf_num (okTo_all hf4 _ (getD_mem hlt Od.z))
            have htk : l.take k ++ [l[k]?.getD Od.z] = l.take (k + 1) := by
              rw [List.take_add_one, List.getElem?_eq_getElem hlt]; rfl
            obtain ⟨od, hod⟩ : ∃ od, l[k]?.getD Od.z = od := ⟨_, rfl⟩
            rw [hod] at hcl hwf htk
            obtain ⟨cn, ca, cg, ct, cm⟩ := five_of hcl
            clear hcl
            have HTK := Lib.hid htk
            have HB6 := Lib.hid hb6
            have HB6' := Lib.hid hb6'
            clear htk hod
            go_upto_region 13 with fail
            refine region_plain (fun W => W = wr.drew) [12] (by kernel_rfl) ?_
            have hbl6 : b < W1.heap.size := hbl
            have d0' : wr.drew.cell? ⟨b, o + k * 5, none⟩ = _ := (hb6'.cell (p := ⟨b, o + k * 5, none⟩) hbl6).trans cn
            have d1' : wr.drew.cell? ⟨b, o + k * 5 + 1, none⟩ = _ := (hb6'.cell (p := ⟨b, o + k * 5 + 1, none⟩) hbl6).trans ca
            have d2' : wr.drew.cell? ⟨b, o + k * 5 + 2, none⟩ = _ := (hb6'.cell (p := ⟨b, o + k * 5 + 2, none⟩) hbl6).trans cg
            have d3' : wr.drew.cell? ⟨b, o + k * 5 + 3, none⟩ = _ := (hb6'.cell (p := ⟨b, o + k * 5 + 3, none⟩) hbl6).trans ct
            have d4' : wr.drew.cell? ⟨b, o + k * 5 + 4, none⟩ = _ := (hb6'.cell (p := ⟨b, o + k * 5 + 4, none⟩) hbl6).trans cm
            have f2' : wr.drew.cell? ⟨w.heap.size, 2, none⟩ = some (.slice (some ⟨b, o, none⟩) l.length vcap) := d2
            have hown0 := hown.drew
            have hb60 := hb6.drew
            obtain ⟨W0, hW0⟩ : ∃ W0, wr.drew = W0 := ⟨_, rfl⟩
            rw [hW0] at d0' d1' d2' d3' d4' f2' hown0 hb60 ⊢
            have q0 : W0 = W0 := rfl
            clear hW0 hown hb6 hb6' d0 d1 d2 e0 e1 e2 hbq6
            obtain ⟨w6, hrun, hown6, hgr⟩ := hown0.update (int_keyed Tryd.underlying3) Tryd.underlying43 (show k < maxLen by unfold maxLen; omega) (keyOf_int_mk Tryd.underlying3 hwf) (oR_mk od)
            refine wpAnyD_take (i := 0) (v := .map (some w5.heap.size)) rfl (by kernel_rfl) (by kernel_rfl) (by kernel_rfl) (by kernel_rfl) (by kernel_rfl) (fun _ _ _ h => h) (.inl ⟨by kernel_rfl, fun W' hS => by go_simp⟩) q0 ?_
            refine wpAnyD_take (i := 1) (v := .pointer (some ⟨w.heap.size, 2, none⟩)) rfl (by kernel_rfl) (by kernel_rfl) (by kernel_rfl) (by kernel_rfl) (by kernel_rfl) (fun _ _ _ h => h) (.inl ⟨by kernel_rfl, fun W' hS => by go_simp⟩) q0 ?_
            refine wpAnyD_take (i := 2) (v := .slice (some ⟨b, o, none⟩) l.length vcap) rfl (by kernel_rfl) (by kernel_rfl) (by kernel_rfl) (by kernel_rfl) (by kernel_rfl) (fun _ _ _ h => h) (.inl ⟨by kernel_rfl, fun W' hS => by subst hS; go_simp⟩) q0 ?_
            refine wpAnyD_take (i := 3) (v := .int .i64 k) rfl (by kernel_rfl) (by kernel_rfl) (by kernel_rfl) (by kernel_rfl) (by kernel_rfl) (fun _ _ _ h => h) (.inl ⟨by kernel_rfl, fun W' hS => by go_simp⟩) q0 ?_
            refine wpAnyD_take (i := 4) (v := .pointer (some ⟨b, o + k * 5, none⟩)) rfl (by kernel_rfl) (by kernel_rfl) (by kernel_rfl) (by kernel_rfl) (by kernel_rfl) (fun _ _ _ h => h) (.inl ⟨by kernel_rfl, fun W' hS => by go_simp⟩) q0 ?_
            refine wpAnyD_take (i := 5) (v := .pointer (some ⟨b, o + k * 5, none⟩)) rfl (by kernel_rfl) (by kernel_rfl) (by kernel_rfl) (by kernel_rfl) (by kernel_rfl) (fun _ _ _ h => h) (.inl ⟨by kernel_rfl, fun W' hS => by go_simp⟩) q0 ?_
            refine wpAnyD_take (i := 6) (v := .int .i64 od.num) rfl (by kernel_rfl) (by kernel_rfl) (by kernel_rfl) (by kernel_rfl) (by kernel_rfl) (fun _ _ _ h => h) (.inl ⟨by kernel_rfl, fun W' hS => by subst hS; go_simp⟩) q0 ?_
            refine wpAnyD_take (i := 7) (v := .pointer (some ⟨w.heap.size, 2, none⟩)) rfl (by kernel_rfl) (by kernel_rfl) (by kernel_rfl) (by kernel_rfl) (by kernel_rfl) (fun _ _ _ h => h) (.inl ⟨by kernel_rfl, fun W' hS => by go_simp⟩) q0 ?_
            refine wpAnyD_take (i := 8) (v := .slice (some ⟨b, o, none⟩) l.length vcap) rfl (by kernel_rfl) (by kernel_rfl) (by kernel_rfl) (by kernel_rfl) (by kernel_rfl) (fun _ _ _ h => h) (.inl ⟨by kernel_rfl, fun W' hS => by subst hS; go_simp⟩) q0 ?_
            refine wpAnyD_take (i := 9) (v := .int .i64 k) rfl (by kernel_rfl) (by kernel_rfl) (by kernel_rfl) (by kernel_rfl) (by kernel_rfl) (fun _ _ _ h => h) (.inl ⟨by kernel_rfl, fun W' hS => by go_simp⟩) q0 ?_
            refine wpAnyD_take (i := 10) (v := .pointer (some ⟨b, o + k * 5, none⟩)) rfl (by kernel_rfl) (by kernel_rfl) (by kernel_rfl) (by kernel_rfl) (by kernel_rfl) (fun _ _ _ h => h) (.inl ⟨by kernel_rfl, fun W' hS => by go_simp⟩) q0 ?_
            refine wpAnyD_take (i := 11) (v := .agg #[.int .i64 od.num, .int .i64 od.acc, .int .i64 od.gross, .int .i64 od.tax, .int .i64 od.net]) rfl (by kernel_rfl) (by kernel_rfl) (by kernel_rfl) (by kernel_rfl) (by kernel_rfl) (fun _ _ _ h => h) (.inl ⟨by kernel_rfl, fun W' hS => by subst hS; go_simp⟩) q0 ?_
            refine wpAnyD_one (i := 12) (by kernel_rfl) rfl (by kernel_rfl) ?_
            go_simp
            refine wpAnyD_done (by kernel_rfl) ?_ _
            go_wp2_with fail
            refine ⟨⟨k + 1, by omega, by go_num, ?_, hb60.grown hgr hb60.size (fun j hj => by cases hj; exact Nat.le_refl _)⟩, by simp [intOf]; omega⟩
            rw [← HTK.out, mapL_snoc]
            exact hown6
          · obtain rfl : k = l.length := by omega
            rw [List.take_length] at hown
            obtain ⟨wm, hwm⟩ : ∃ wm, wr = wm := ⟨_, rfl⟩
            rw [hwm] at hown hb6 hb6' hbq6 d0 d1 d2 e0 e1 e2 ⊢
            clear hwm
            go_wp2_with fail
            go_loopw [10, 11] (fun m i wr => ∃ k : Nat, k ≤ rs.length ∧ i = .int .i64 k ∧ m = .bool (missS l (rs.take k)) ∧ Below wm.heap.size wm wr) (fun _ i _ => rs.length - (intOf i).toNat)
            case atStart => exact ⟨0, Nat.zero_le _, rfl, rfl, Below.refl _ _⟩
            case round =>
              obtain ⟨k, hk, rfl, rfl, hb7⟩ := hrel
              obtain ⟨wl, hwl⟩ : ∃ wl, wr = wl := ⟨_, rfl⟩
              rw [hwl] at hb7 ⊢
              clear hwl
              have hbq7 := hbq6.trans (hb7.mono hbq6.size)
              have hb7' : Below W1.heap.size W1 wl := hb6'.trans (hb7.mono hb6'.size)
              have hown7 : wl.ownsMap Tryd.prog 3 oR w5.heap.size l.length (mapL l) := ownsMap_below hown hb7
              clear d0 d1 d2 e0 e1 e2
              obtain ⟨e0, e1, e2⟩ := (q2.below hb7' hs1).three
              by_cases hlt : k < rs.length
              · obtain ⟨b, o, rfl, hbl, hcl⟩ := hu1 k hlt
                have hwf : (Lit.int .i64 (rs[k]?.getD Rt.z).ord).wf = true := wf_ord (okRs_all hrs _ (getD_mem hlt Rt.z))
                have htk := missS_take l rs k hlt
                obtain ⟨rt, hrt⟩ : ∃ rt, rs[k]?.getD Rt.z = rt := ⟨_, rfl⟩
                rw [hrt] at hcl hwf htk
                obtain ⟨cn, ca⟩ := two_of hcl
                have c0' : wl.cell? ⟨b, o + k * 2, none⟩ = _ := (hb7'.cell (p := ⟨b, o + k * 2, none⟩) hbl).trans cn
                clear hcl
                obtain ⟨mb, hmb⟩ : ∃ mb, missS l (rs.take k) = mb := ⟨_, rfl⟩
                rw [hmb] at htk ⊢
                have HTK := Lib.hid htk
                have HB7 := Lib.hid hb7
                have HB7' := Lib.hid hb7'
                have hfin : ∀ ok (od : Od) (W : World), ok = (lastOf l rt.ord).isSome → Below wl.heap.size wl W → (∃ k' : Nat, k' ≤ rs.length ∧ Value.int .i64 ((k : Int) + 1) = .int .i64 k' ∧ Value.bool (mb || !ok) = .bool (missS l (rs.take k')) ∧ Below wm.heap.size wm W) := by
                  intro ok od W h1 h2
                  subst h1
                  exact ⟨k + 1, by omega, by go_num, by rw [HTK.out], HB7.out.trans (h2.mono HB7.out.size)⟩
                have HF := Lib.hid hfin
                clear hfin htk hrt hmb hb7 hb7'
                cases mb with
                | true =>
                  go_wp2_with (first | (at_lookup; refine wpList_lookup_O rfl _ _ _ rfl _ _ l rfl hown7 _ rfl hwf ?_; intro od ok hok) | fail)
                  go_quiet (fail)
                  go_wp2_with fail
                  refine ⟨HF.out ok od _ hok.out.1 (below_drewN2 ((Below.refl _ _).alloc (Nat.le_refl _) _) _), by simp [intOf]; omega⟩
                | false =>
                  go_wp2_with (first | (at_lookup; refine wpList_lookup_O rfl _ _ _ rfl _ _ l rfl hown7 _ rfl hwf ?_; intro od ok hok) | fail)
                  go_quiet (fail)
                  go_wp2_with fail
                  refine ⟨HF.out ok od _ hok.out.1 (below_drewN2 ((Below.refl _ _).alloc (Nat.le_refl _) _) _), by simp [intOf]; omega⟩
              · obtain rfl : k = rs.length := by omega
                rw [List.take_length]
                go_wp2_with fail
                go_ret
                exact ⟨rfl, hbq7⟩
    case neg =>
      have hob : (an != n) = false := by
        rw [bne_eq_false_iff_eq]
        rcases Int.lt_trichotomy n an with h | h | h
        · exact absurd (.inl (by omega)) hot
        · exact h.symm
        · exact absurd (.inl (by omega)) hot
      have hoc : decide (ad < d) = false := decide_eq_false fun h => hot (.inr h)
      by_cases hL : (picks l rs).length = rs.length
      case neg =>
        rw [matchS_none hvb hrb hot hL] at hx ⊢
        dsimp only at hx ⊢
        obtain ⟨xa, xcap, rfl, -⟩ := hx
        have hmt : missS l rs = true := by
          obtain ⟨i, hi, he⟩ := picks_short hf4 hL
          exact missS_at hi he
        clear hot hL
        go_wp2_with fail
        go_loopw [9] (fun i wr => ∃ k : Nat, k ≤ l.length ∧ i = .int .i64 k ∧ wr.ownsMap Tryd.prog 3 oR w5.heap.size k (mapL (l.take k)) ∧ Below w5.heap.size w5 wr) (fun i _ => l.length - (intOf i).toNat)
        case atStart => exact ⟨0, Nat.zero_le _, rfl, World.ownsMap_made _ _ _ _, (Below.refl _ _).alloc (Nat.le_refl _) _⟩
        case round =>
          obtain ⟨k, hk, rfl, hown, hb6⟩ := hrel
          have hbq6 := hbq5.trans (hb6.mono hbq5.size)
          have hb6' : Below W1.heap.size W1 _ := hb5.trans (hb6.mono hb5.size)
          clear d0 d1 d2 e0 e1 e2
          obtain ⟨d0, d1, d2⟩ := (q1.below hb6' (by omega)).three
          obtain ⟨e0, e1, e2⟩ := (q2.below hb6' hs1).three
          by_cases hlt : k < l.length
          · obtain ⟨b, o, rfl, hbl, hcl⟩ := hv5 k hlt
            have hwf : (Lit.int .i64 (l[k]?.getD Od.z).num).wf = true := wf_num (okTo_all hf4 _ (getD_mem hlt Od.z))
            have htk : l.take k ++ [l[k]?.getD Od.z] = l.take (k + 1) := by
              rw [List.take_add_one, List.getElem?_eq_getElem hlt]; rfl
            obtain ⟨od, hod⟩ : ∃ od, l[k]?.getD Od.z = od := ⟨_, rfl⟩
            rw [hod] at hcl hwf htk
            obtain ⟨cn, ca, cg, ct, cm⟩ := five_of hcl
            clear hcl
            have HTK := Lib.hid htk
            have HB6 := Lib.hid hb6
            have HB6' := Lib.hid hb6'
            clear htk hod
            go_upto_region 13 with fail
            refine region_plain (fun W => W = wr.drew) [12] (by kernel_rfl) ?_
            have hbl6 : b < W1.heap.size := hbl
            have d0' : wr.drew.cell? ⟨b, o + k * 5, none⟩ = _ := (hb6'.cell (p := ⟨b, o + k * 5, none⟩) hbl6).trans cn
            have d1' : wr.drew.cell? ⟨b, o + k * 5 + 1, none⟩ = _ := (hb6'.cell (p := ⟨b, o + k * 5 + 1, none⟩) hbl6).trans ca
            have d2' : wr.drew.cell? ⟨b, o + k * 5 + 2, none⟩ = _ := (hb6'.cell (p := ⟨b, o + k * 5 + 2, none⟩) hbl6).trans cg
            have d3' : wr.drew.cell? ⟨b, o + k * 5 + 3, none⟩ = _ := (hb6'.cell (p := ⟨b, o + k * 5 + 3, none⟩) hbl6).trans ct
            have d4' : wr.drew.cell? ⟨b, o + k * 5 + 4, none⟩ = _ := (hb6'.cell (p := ⟨b, o + k * 5 + 4, none⟩) hbl6).trans cm
            have f2' : wr.drew.cell? ⟨w.heap.size, 2, none⟩ = some (.slice (some ⟨b, o, none⟩) l.length vcap) := d2
            have hown0 := hown.drew
            have hb60 := hb6.drew
            obtain ⟨W0, hW0⟩ : ∃ W0, wr.drew = W0 := ⟨_, rfl⟩
            rw [hW0] at d0' d1' d2' d3' d4' f2' hown0 hb60 ⊢
            have q0 : W0 = W0 := rfl
            clear hW0 hown hb6 hb6' d0 d1 d2 e0 e1 e2 hbq6
            obtain ⟨w6, hrun, hown6, hgr⟩ := hown0.update (int_keyed Tryd.underlying3) Tryd.underlying43 (show k < maxLen by unfold maxLen; omega) (keyOf_int_mk Tryd.underlying3 hwf) (oR_mk od)
            refine wpAnyD_take (i := 0) (v := .map (some w5.heap.size)) rfl (by kernel_rfl) (by kernel_rfl) (by kernel_rfl) (by kernel_rfl) (by kernel_rfl) (fun _ _ _ h => h) (.inl ⟨by kernel_rfl, fun W' hS => by go_simp⟩) q0 ?_
            refine wpAnyD_take (i := 1) (v := .pointer (some ⟨w.heap.size, 2, none⟩)) rfl (by kernel_rfl) (by kernel_rfl) (by kernel_rfl) (by kernel_rfl) (by kernel_rfl) (fun _ _ _ h => h) (.inl ⟨by kernel_rfl, fun W' hS => by go_simp⟩) q0 ?_
            refine wpAnyD_take (i := 2) (v := .slice (some ⟨b, o, none⟩) l.length vcap) rfl (by kernel_rfl) (by kernel_rfl) (by kernel_rfl) (by kernel_rfl) (by kernel_rfl) (fun _ _ _ h => h) (.inl ⟨by kernel_rfl, fun W' hS => by subst hS; go_simp⟩) q0 ?_
            refine wpAnyD_take (i := 3) (v := .int .i64 k) rfl (by kernel_rfl) (by kernel_rfl) (by kernel_rfl) (by kernel_rfl) (by kernel_rfl) (fun _ _ _ h => h) (.inl ⟨by kernel_rfl, fun W' hS => by go_simp⟩) q0 ?_
            refine wpAnyD_take (i := 4) (v := .pointer (some ⟨b, o + k * 5, none⟩)) rfl (by kernel_rfl) (by kernel_rfl) (by kernel_rfl) (by kernel_rfl) (by kernel_rfl) (fun _ _ _ h => h) (.inl ⟨by kernel_rfl, fun W' hS => by go_simp⟩) q0 ?_
            refine wpAnyD_take (i := 5) (v := .pointer (some ⟨b, o + k * 5, none⟩)) rfl (by kernel_rfl) (by kernel_rfl) (by kernel_rfl) (by kernel_rfl) (by kernel_rfl) (fun _ _ _ h => h) (.inl ⟨by kernel_rfl, fun W' hS => by go_simp⟩) q0 ?_
            refine wpAnyD_take (i := 6) (v := .int .i64 od.num) rfl (by kernel_rfl) (by kernel_rfl) (by kernel_rfl) (by kernel_rfl) (by kernel_rfl) (fun _ _ _ h => h) (.inl ⟨by kernel_rfl, fun W' hS => by subst hS; go_simp⟩) q0 ?_
            refine wpAnyD_take (i := 7) (v := .pointer (some ⟨w.heap.size, 2, none⟩)) rfl (by kernel_rfl) (by kernel_rfl) (by kernel_rfl) (by kernel_rfl) (by kernel_rfl) (fun _ _ _ h => h) (.inl ⟨by kernel_rfl, fun W' hS => by go_simp⟩) q0 ?_
            refine wpAnyD_take (i := 8) (v := .slice (some ⟨b, o, none⟩) l.length vcap) rfl (by kernel_rfl) (by kernel_rfl) (by kernel_rfl) (by kernel_rfl) (by kernel_rfl) (fun _ _ _ h => h) (.inl ⟨by kernel_rfl, fun W' hS => by subst hS; go_simp⟩) q0 ?_
            refine wpAnyD_take (i := 9) (v := .int .i64 k) rfl (by kernel_rfl) (by kernel_rfl) (by kernel_rfl) (by kernel_rfl) (by kernel_rfl) (fun _ _ _ h => h) (.inl ⟨by kernel_rfl, fun W' hS => by go_simp⟩) q0 ?_
            refine wpAnyD_take (i := 10) (v := .pointer (some ⟨b, o + k * 5, none⟩)) rfl (by kernel_rfl) (by kernel_rfl) (by kernel_rfl) (by kernel_rfl) (by kernel_rfl) (fun _ _ _ h => h) (.inl ⟨by kernel_rfl, fun W' hS => by go_simp⟩) q0 ?_
            refine wpAnyD_take (i := 11) (v := .agg #[.int .i64 od.num, .int .i64 od.acc, .int .i64 od.gross, .int .i64 od.tax, .int .i64 od.net]) rfl (by kernel_rfl) (by kernel_rfl) (by kernel_rfl) (by kernel_rfl) (by kernel_rfl) (fun _ _ _ h => h) (.inl ⟨by kernel_rfl, fun W' hS => by subst hS; go_simp⟩) q0 ?_
            refine wpAnyD_one (i := 12) (by kernel_rfl) rfl (by kernel_rfl) ?_
            go_simp
            refine wpAnyD_done (by kernel_rfl) ?_ _
            go_wp2_with fail
            refine ⟨⟨k + 1, by omega, by go_num, ?_, hb60.grown hgr hb60.size (fun j hj => by cases hj; exact Nat.le_refl _)⟩, by simp [intOf]; omega⟩
            rw [← HTK.out, mapL_snoc]
            exact hown6
          · obtain rfl : k = l.length := by omega
            rw [List.take_length] at hown
            obtain ⟨wm, hwm⟩ : ∃ wm, wr = wm := ⟨_, rfl⟩
            rw [hwm] at hown hb6 hb6' hbq6 d0 d1 d2 e0 e1 e2 ⊢
            clear hwm
            go_wp2_with fail
            go_loopw [10, 11] (fun m i wr => ∃ k : Nat, k ≤ rs.length ∧ i = .int .i64 k ∧ m = .bool (missS l (rs.take k)) ∧ Below wm.heap.size wm wr) (fun _ i _ => rs.length - (intOf i).toNat)
            case atStart => exact ⟨0, Nat.zero_le _, rfl, rfl, Below.refl _ _⟩
            case round =>
              obtain ⟨k, hk, rfl, rfl, hb7⟩ := hrel
              obtain ⟨wl, hwl⟩ : ∃ wl, wr = wl := ⟨_, rfl⟩
              rw [hwl] at hb7 ⊢
              clear hwl
              have hbq7 := hbq6.trans (hb7.mono hbq6.size)
              have hb7' : Below W1.heap.size W1 wl := hb6'.trans (hb7.mono hb6'.size)
              have hown7 : wl.ownsMap Tryd.prog 3 oR w5.heap.size l.length (mapL l) := ownsMap_below hown hb7
              clear d0 d1 d2 e0 e1 e2
              obtain ⟨e0, e1, e2⟩ := (q2.below hb7' hs1).three
              by_cases hlt : k < rs.length
              · obtain ⟨b, o, rfl, hbl, hcl⟩ := hu1 k hlt
                have hwf : (Lit.int .i64 (rs[k]?.getD Rt.z).ord).wf = true := wf_ord (okRs_all hrs _ (getD_mem hlt Rt.z))
                have htk := missS_take l rs k hlt
                obtain ⟨rt, hrt⟩ : ∃ rt, rs[k]?.getD Rt.z = rt := ⟨_, rfl⟩
                rw [hrt] at hcl hwf htk
                obtain ⟨cn, ca⟩ := two_of hcl
                have c0' : wl.cell? ⟨b, o + k * 2, none⟩ = _ := (hb7'.cell (p := ⟨b, o + k * 2, none⟩) hbl).trans cn
                clear hcl
                obtain ⟨mb, hmb⟩ : ∃ mb, missS l (rs.take k) = mb := ⟨_, rfl⟩
                rw [hmb] at htk ⊢
                have HTK := Lib.hid htk
                have HB7 := Lib.hid hb7
                have HB7' := Lib.hid hb7'
                have hfin : ∀ ok (od : Od) (W : World), ok = (lastOf l rt.ord).isSome → Below wl.heap.size wl W → (∃ k' : Nat, k' ≤ rs.length ∧ Value.int .i64 ((k : Int) + 1) = .int .i64 k' ∧ Value.bool (mb || !ok) = .bool (missS l (rs.take k')) ∧ Below wm.heap.size wm W) := by
                  intro ok od W h1 h2
                  subst h1
                  exact ⟨k + 1, by omega, by go_num, by rw [HTK.out], HB7.out.trans (h2.mono HB7.out.size)⟩
                have HF := Lib.hid hfin
                clear hfin htk hrt hmb hb7 hb7'
                cases mb with
                | true =>
                  go_wp2_with (first | (at_lookup; refine wpList_lookup_O rfl _ _ _ rfl _ _ l rfl hown7 _ rfl hwf ?_; intro od ok hok) | fail)
                  go_quiet (fail)
                  go_wp2_with fail
                  refine ⟨HF.out ok od _ hok.out.1 (below_drewN2 ((Below.refl _ _).alloc (Nat.le_refl _) _) _), by simp [intOf]; omega⟩
                | false =>
                  go_wp2_with (first | (at_lookup; refine wpList_lookup_O rfl _ _ _ rfl _ _ l rfl hown7 _ rfl hwf ?_; intro od ok hok) | fail)
                  go_quiet (fail)
                  go_wp2_with fail
                  refine ⟨HF.out ok od _ hok.out.1 (below_drewN2 ((Below.refl _ _).alloc (Nat.le_refl _) _) _), by simp [intOf]; omega⟩
              · obtain rfl : k = rs.length := by omega
                rw [List.take_length]
                rw [hmt]
                go_wp2_with fail
                go_ret
                exact ⟨rfl, hbq7⟩
      case pos =>
        rw [matchS_ok hvb hrb hot hL] at hx ⊢
        dsimp only at hx ⊢
        have HL := hL
        obtain ⟨ms, hms⟩ : ∃ ms, picks l rs = ms := ⟨_, rfl⟩
        rw [hms] at hx hL
        unfold Ords at hx
        rw [hL] at hx
        obtain ⟨xa, xcap, rfl, hxl, hxm, -, hxc⟩ := hx
        clear hot
        go_wp2_with fail
        go_loopw [9] (fun i wr => ∃ k : Nat, k ≤ l.length ∧ i = .int .i64 k ∧ wr.ownsMap Tryd.prog 3 oR w5.heap.size k (mapL (l.take k)) ∧ Below w5.heap.size w5 wr) (fun i _ => l.length - (intOf i).toNat)
        case atStart => exact ⟨0, Nat.zero_le _, rfl, World.ownsMap_made _ _ _ _, (Below.refl _ _).alloc (Nat.le_refl _) _⟩
        case round =>
          obtain ⟨k, hk, rfl, hown, hb6⟩ := hrel
          have hbq6 := hbq5.trans (hb6.mono hbq5.size)
          have hb6' : Below W1.heap.size W1 _ := hb5.trans (hb6.mono hb5.size)
          clear d0 d1 d2 e0 e1 e2
          obtain ⟨d0, d1, d2⟩ := (q1.below hb6' (by omega)).three
          obtain ⟨e0, e1, e2⟩ := (q2.below hb6' hs1).three
          by_cases hlt : k < l.length
          · obtain ⟨b, o, rfl, hbl, hcl⟩ := hv5 k hlt
            have hwf : (Lit.int .i64 (l[k]?.getD Od.z).num).wf = true := wf_num (okTo_all hf4 _ (getD_mem hlt Od.z))
            have htk : l.take k ++ [l[k]?.getD Od.z] = l.take (k + 1) := by
              rw [List.take_add_one, List.getElem?_eq_getElem hlt]; rfl
            obtain ⟨od, hod⟩ : ∃ od, l[k]?.getD Od.z = od := ⟨_, rfl⟩
            rw [hod] at hcl hwf htk
            obtain ⟨cn, ca, cg, ct, cm⟩ := five_of hcl
            clear hcl
            have HTK := Lib.hid htk
            have HB6 := Lib.hid hb6
            have HB6' := Lib.hid hb6'
            clear htk hod
            go_upto_region 13 with fail
            refine region_plain (fun W => W = wr.drew) [12] (by kernel_rfl) ?_
            have hbl6 : b < W1.heap.size := hbl
            have d0' : wr.drew.cell? ⟨b, o + k * 5, none⟩ = _ := (hb6'.cell (p := ⟨b, o + k * 5, none⟩) hbl6).trans cn
            have d1' : wr.drew.cell? ⟨b, o + k * 5 + 1, none⟩ = _ := (hb6'.cell (p := ⟨b, o + k * 5 + 1, none⟩) hbl6).trans ca
            have d2' : wr.drew.cell? ⟨b, o + k * 5 + 2, none⟩ = _ := (hb6'.cell (p := ⟨b, o + k * 5 + 2, none⟩) hbl6).trans cg
            have d3' : wr.drew.cell? ⟨b, o + k * 5 + 3, none⟩ = _ := (hb6'.cell (p := ⟨b, o + k * 5 + 3, none⟩) hbl6).trans ct
            have d4' : wr.drew.cell? ⟨b, o + k * 5 + 4, none⟩ = _ := (hb6'.cell (p := ⟨b, o + k * 5 + 4, none⟩) hbl6).trans cm
            have f2' : wr.drew.cell? ⟨w.heap.size, 2, none⟩ = some (.slice (some ⟨b, o, none⟩) l.length vcap) := d2
            have hown0 := hown.drew
            have hb60 := hb6.drew
            obtain ⟨W0, hW0⟩ : ∃ W0, wr.drew = W0 := ⟨_, rfl⟩
            rw [hW0] at d0' d1' d2' d3' d4' f2' hown0 hb60 ⊢
            have q0 : W0 = W0 := rfl
            clear hW0 hown hb6 hb6' d0 d1 d2 e0 e1 e2 hbq6
            obtain ⟨w6, hrun, hown6, hgr⟩ := hown0.update (int_keyed Tryd.underlying3) Tryd.underlying43 (show k < maxLen by unfold maxLen; omega) (keyOf_int_mk Tryd.underlying3 hwf) (oR_mk od)
            refine wpAnyD_take (i := 0) (v := .map (some w5.heap.size)) rfl (by kernel_rfl) (by kernel_rfl) (by kernel_rfl) (by kernel_rfl) (by kernel_rfl) (fun _ _ _ h => h) (.inl ⟨by kernel_rfl, fun W' hS => by go_simp⟩) q0 ?_
            refine wpAnyD_take (i := 1) (v := .pointer (some ⟨w.heap.size, 2, none⟩)) rfl (by kernel_rfl) (by kernel_rfl) (by kernel_rfl) (by kernel_rfl) (by kernel_rfl) (fun _ _ _ h => h) (.inl ⟨by kernel_rfl, fun W' hS => by go_simp⟩) q0 ?_
            refine wpAnyD_take (i := 2) (v := .slice (some ⟨b, o, none⟩) l.length vcap) rfl (by kernel_rfl) (by kernel_rfl) (by kernel_rfl) (by kernel_rfl) (by kernel_rfl) (fun _ _ _ h => h) (.inl ⟨by kernel_rfl, fun W' hS => by subst hS; go_simp⟩) q0 ?_
            refine wpAnyD_take (i := 3) (v := .int .i64 k) rfl (by kernel_rfl) (by kernel_rfl) (by kernel_rfl) (by kernel_rfl) (by kernel_rfl) (fun _ _ _ h => h) (.inl ⟨by kernel_rfl, fun W' hS => by go_simp⟩) q0 ?_
            refine wpAnyD_take (i := 4) (v := .pointer (some ⟨b, o + k * 5, none⟩)) rfl (by kernel_rfl) (by kernel_rfl) (by kernel_rfl) (by kernel_rfl) (by kernel_rfl) (fun _ _ _ h => h) (.inl ⟨by kernel_rfl, fun W' hS => by go_simp⟩) q0 ?_
            refine wpAnyD_take (i := 5) (v := .pointer (some ⟨b, o + k * 5, none⟩)) rfl (by kernel_rfl) (by kernel_rfl) (by kernel_rfl) (by kernel_rfl) (by kernel_rfl) (fun _ _ _ h => h) (.inl ⟨by kernel_rfl, fun W' hS => by go_simp⟩) q0 ?_
            refine wpAnyD_take (i := 6) (v := .int .i64 od.num) rfl (by kernel_rfl) (by kernel_rfl) (by kernel_rfl) (by kernel_rfl) (by kernel_rfl) (fun _ _ _ h => h) (.inl ⟨by kernel_rfl, fun W' hS => by subst hS; go_simp⟩) q0 ?_
            refine wpAnyD_take (i := 7) (v := .pointer (some ⟨w.heap.size, 2, none⟩)) rfl (by kernel_rfl) (by kernel_rfl) (by kernel_rfl) (by kernel_rfl) (by kernel_rfl) (fun _ _ _ h => h) (.inl ⟨by kernel_rfl, fun W' hS => by go_simp⟩) q0 ?_
            refine wpAnyD_take (i := 8) (v := .slice (some ⟨b, o, none⟩) l.length vcap) rfl (by kernel_rfl) (by kernel_rfl) (by kernel_rfl) (by kernel_rfl) (by kernel_rfl) (fun _ _ _ h => h) (.inl ⟨by kernel_rfl, fun W' hS => by subst hS; go_simp⟩) q0 ?_
            refine wpAnyD_take (i := 9) (v := .int .i64 k) rfl (by kernel_rfl) (by kernel_rfl) (by kernel_rfl) (by kernel_rfl) (by kernel_rfl) (fun _ _ _ h => h) (.inl ⟨by kernel_rfl, fun W' hS => by go_simp⟩) q0 ?_
            refine wpAnyD_take (i := 10) (v := .pointer (some ⟨b, o + k * 5, none⟩)) rfl (by kernel_rfl) (by kernel_rfl) (by kernel_rfl) (by kernel_rfl) (by kernel_rfl) (fun _ _ _ h => h) (.inl ⟨by kernel_rfl, fun W' hS => by go_simp⟩) q0 ?_
            refine wpAnyD_take (i := 11) (v := .agg #[.int .i64 od.num, .int .i64 od.acc, .int .i64 od.gross, .int .i64 od.tax, .int .i64 od.net]) rfl (by kernel_rfl) (by kernel_rfl) (by kernel_rfl) (by kernel_rfl) (by kernel_rfl) (fun _ _ _ h => h) (.inl ⟨by kernel_rfl, fun W' hS => by subst hS; go_simp⟩) q0 ?_
            refine wpAnyD_one (i := 12) (by kernel_rfl) rfl (by kernel_rfl) ?_
            go_simp
            refine wpAnyD_done (by kernel_rfl) ?_ _
            go_wp2_with fail
            refine ⟨⟨k + 1, by omega, by go_num, ?_, hb60.grown hgr hb60.size (fun j hj => by cases hj; exact Nat.le_refl _)⟩, by simp [intOf]; omega⟩
            rw [← HTK.out, mapL_snoc]
            exact hown6
          · obtain rfl : k = l.length := by omega
            rw [List.take_length] at hown
            obtain ⟨wm, hwm⟩ : ∃ wm, wr = wm := ⟨_, rfl⟩
            rw [hwm] at hown hb6 hb6' hbq6 d0 d1 d2 e0 e1 e2 ⊢
            clear hwm
            go_wp2_with fail
            go_loopw [10, 11] (fun m i wr => ∃ k : Nat, k ≤ rs.length ∧ i = .int .i64 k ∧ m = .bool false ∧ Below wm.heap.size wm wr) (fun _ i _ => rs.length - (intOf i).toNat)
            case atStart => exact ⟨0, Nat.zero_le _, rfl, rfl, Below.refl _ _⟩
            case round =>
              obtain ⟨k, hk, rfl, rfl, hb7⟩ := hrel
              obtain ⟨wl, hwl⟩ : ∃ wl, wr = wl := ⟨_, rfl⟩
              rw [hwl] at hb7 ⊢
              clear hwl
              have hbq7 := hbq6.trans (hb7.mono hbq6.size)
              have hb7' : Below W1.heap.size W1 wl := hb6'.trans (hb7.mono hb6'.size)
              have hown7 : wl.ownsMap Tryd.prog 3 oR w5.heap.size l.length (mapL l) := ownsMap_below hown hb7
              clear d0 d1 d2 e0 e1 e2
              obtain ⟨e0, e1, e2⟩ := (q2.below hb7' hs1).three
              by_cases hlt : k < rs.length
              · obtain ⟨b, o, rfl, hbl, hcl⟩ := hu1 k hlt
                have hwf : (Lit.int .i64 (rs[k]?.getD Rt.z).ord).wf = true := wf_ord (okRs_all hrs _ (getD_mem hlt Rt.z))
                have hpa := picks_all hf4 HL hlt
                rw [hms] at hpa
                obtain ⟨hp1, hp2⟩ := hpa
                obtain ⟨rt, hrt⟩ : ∃ rt, rs[k]?.getD Rt.z = rt := ⟨_, rfl⟩
                rw [hrt] at hcl hwf hp1
                obtain ⟨cn, ca⟩ := two_of hcl
                have c0' : wl.cell? ⟨b, o + k * 2, none⟩ = _ := (hb7'.cell (p := ⟨b, o + k * 2, none⟩) hbl).trans cn
                clear hcl
                obtain ⟨b', o', rfl, hbx, hcx⟩ := hxc k hlt
                obtain ⟨od', hod'⟩ : ∃ od', ms[k]?.getD Od.z = od' := ⟨_, rfl⟩
                rw [hod'] at hcx
                have hp3 : lastOf l rt.ord = some od' := by
                  rw [hp1]
                  cases hq : ms[k]? with
                  | none => rw [hq] at hp2; cases hp2
                  | some y => rw [hq] at hod'; rw [← hod']; rfl
                obtain ⟨on, oa, og, ot, om⟩ := od'
                obtain ⟨y0, y1, y2, y3, y4⟩ := five_of hcx
                have hall : ∀ (od : Od) (ok : Bool), RowKit.Hid (ok = (lastOf l rt.ord).isSome ∧ od = (lastOf l rt.ord).getD Od.z) → ok = true ∧ od = ⟨on, oa, og, ot, om⟩ := by
                  intro od ok h
                  rw [hp3] at h
                  exact h.out
                have HALL := Lib.hid hall
                have hbd : Below w5.heap.size w5 (wl.alloc (.cells #[.int .i64 on, .int .i64 oa, .int .i64 og, .int .i64 ot, .int .i64 om] 45)) := (hb6.trans (hb7.mono hb6.size)).alloc (Nat.le_trans hb6.size hb7.size) _
                have y0' := (hbd.cell (p := ⟨b', o' + k * 5, none⟩) hbx).trans y0
                have y1' := (hbd.cell (p := ⟨b', o' + k * 5 + 1, none⟩) hbx).trans y1
                have y2' := (hbd.cell (p := ⟨b', o' + k * 5 + 2, none⟩) hbx).trans y2
                have y3' := (hbd.cell (p := ⟨b', o' + k * 5 + 3, none⟩) hbx).trans y3
                have y4' := (hbd.cell (p := ⟨b', o' + k * 5 + 4, none⟩) hbx).trans y4
                obtain ⟨z0, z1, z2, z3, z4⟩ := (Blk.new wl #[.int .i64 on, .int .i64 oa, .int .i64 og, .int .i64 ot, .int .i64 om] 45).five
                have hfin : ∀ nq, Below wm.heap.size wm ((wl.alloc (.cells #[.int .i64 on, .int .i64 oa, .int .i64 og, .int .i64 ot, .int .i64 om] 45)).drewN nq) := fun nq => below_drewN2 (hb7.alloc hb7.size _) _
                have HF := Lib.hid hfin
                have HB7 := Lib.hid hb7
                have HB7' := Lib.hid hb7'
                clear hall hrt hb7 hb7' hp1 hp2 hp3 hod' hbd hcx y0 y1 y2 y3 y4 hfin
                go_wp2_with (first | (at_lookup; refine wpList_lookup_O rfl _ _ _ rfl _ _ l rfl hown7 _ rfl hwf ?_; intro od ok hok; obtain ⟨rfl, rfl⟩ := HALL.out _ _ hok) | fail)
                go_quiet (fail)
                go_wp2_with fail
                exact ⟨⟨k + 1, by omega, by go_num, rfl, HF.out _⟩, by simp [intOf]; omega⟩
              · obtain rfl : k = rs.length := by omega
                go_wp2_with fail
                go_ret
                exact ⟨rfl, hbq7⟩
end Go.Proofs.YtaccaebdmndkiaaDoor
