/- OrderItself: the walk. No conditions beyond the readings of the arguments. -/
import Derived.Test.YthbnbjigmgoldaaOlCx
namespace Go.Proofs.Ythbnbjigmgoldaa
open Go.RowKit
set_option linter.unusedVariables false

set_option maxRecDepth 100000 in
set_option maxHeartbeats 4000000 in
theorem itself_walk (K : Nat) (p : Pl) (nm : ByteArray) (vd vt vc : Value) (w : World) (h : PlanIs K w vd vc p) (hK : K ≤ w.heap.size) :
    Calls Try.prog 6 #[.agg #[.string nm, vd, vt, vc]] w fun e w' => e = .returned (.bool true) ∧ Below w.heap.size w w' := by
  obtain ⟨da, dn, dm, rfl⟩ : ∃ a n m, vd = .slice a n m := by obtain ⟨g, hg, _⟩ := h.1; obtain ⟨a, m, hv, _⟩ := hg.form; exact ⟨a, _, m, hv⟩
  obtain ⟨ca, cn, cm, rfl⟩ : ∃ a n m, vc = .slice a n m := by obtain ⟨g, hg, _⟩ := h.2; obtain ⟨a, m, hv, _⟩ := hg.form; exact ⟨a, _, m, hv⟩
  have hx := Cx.start (nm := nm) (vt := vt) h hK
  obtain ⟨W1, hW1⟩ : ∃ W1, w.alloc (.cells #[.string nm, .slice da dn dm, vt, .slice ca cn cm] 26) = W1 := ⟨_, rfl⟩
  rw [hW1] at hx
  have HW1 := Lib.hid hW1
  clear hW1
  obtain ⟨d0, d1, d2, d3⟩ := hx.box.four
  have hf := few_any K p nm _ vt _ W1 hx.plan hx.big
  go_enter Try.func6, Try.ntmps6
  go_wp2_with fail
  rw [HW1.out]
  go_wp2_with fail
  refine hf.mono ?_
  rintro e w2 ⟨rfl, b2⟩
  replace hx := hx.below b2
  obtain ⟨fb, hfb⟩ : ∃ fb, fewB p = fb := ⟨_, rfl⟩
  rw [hfb]
  clear hf b2 d0 d1 d2 d3
  cases fb with
  | false =>
    go_wp2_with fail
    refine (awake_any w2).mono ?_
    rintro e w3 ⟨rfl, b3⟩
    go_wp2_with fail
    go_ret
    exact ⟨rfl, (hx.below b3).bel⟩
  | true =>
    have hsz := few_size hfb
    have hnl := few_names hfb
    have hdl := (few_parts hfb).1
    have HFB := Lib.hid hfb
    clear hfb
    obtain ⟨d0, d1, d2, d3⟩ := hx.box.four
    have ho := order_any K p nm _ vt _ w2 hx.plan hx.big hsz
    go_wp2_with fail
    refine ho.mono ?_
    rintro e w3 ⟨x3, rfl, ho3, b3⟩
    obtain ⟨oa, oc, rfl, _, _⟩ := ho3.form
    replace hx := hx.below b3
    clear ho b3 d0 d1 d2 d3
    obtain ⟨d0, d1, d2, d3⟩ := hx.box.four
    have hn := names_any K p nm _ vt (.slice ca cn cm) w3 hx.plan.1 hx.big (by omega)
    go_wp2_with fail
    refine hn.mono ?_
    rintro e w4 ⟨x4, rfl, hn4, b4⟩
    obtain ⟨na, nc, rfl, hn1, hn2⟩ := hn4.form
    replace hx := hx.below b4
    have hns : Strs w4.heap.size w4 (.slice na (names p).length nc) (names p) := hn4.strs
    have HLAW := Lib.hid (itself_law p)
    obtain ⟨ns, hnsE⟩ : ∃ ns, names p = ns := ⟨_, rfl⟩
    rw [hnsE] at hns hn1 hnl HLAW ⊢
    clear hn b4 d0 d1 d2 d3 ho3 hn4 hnsE
    unfold maxLen at hn2
    go_wp2_with fail
    obtain ⟨N0, hN0⟩ : ∃ N0, w4.heap.size = N0 := ⟨_, rfl⟩
    rw [hN0] at hns
    have hN4 : N0 ≤ w4.heap.size := by omega
    clear hN0
    go_loopw [5, 20] (fun bv i wr => ∃ (k : Nat) (b : Bool), k ≤ ns.length ∧ i = .int .i64 k ∧ bv = .bool b ∧ Hid (b = (ns.take k).any fun s => decide (0 ≤ idxI (reach p s) s)) ∧ Cx K nm (.slice da dn dm) vt (.slice ca cn cm) p w wr ∧ Strs N0 wr (.slice na ns.length nc) ns ∧ N0 ≤ wr.heap.size) (fun _ i _ => ns.length - (intOf i).toNat)
    case atStart => exact ⟨0, false, Nat.zero_le _, rfl, rfl, Lib.hid (by simp), hx, hns, hN4⟩
    case round =>
      obtain ⟨k, b, hk, rfl, rfl, HB, hx, hns, hN⟩ := hrel
      by_cases hlt : k < ns.length
      · obtain ⟨bb, oo, cap, he, _, _, hbK, hc⟩ := hns.pos (by omega)
        simp only [Value.slice.injEq, true_and] at he
        obtain ⟨rfl, rfl⟩ := he
        have c0 := hc k hlt
        have hsl : (ns[k]?.getD []).length ≤ maxLen := hns.len
        have hts : (ns.take (k + 1)).any (fun s => decide (0 ≤ idxI (reach p s) s)) = (b || decide (0 ≤ idxI (reach p (ns[k]?.getD [])) (ns[k]?.getD []))) := by
          rw [List.take_succ_eq_append_getElem hlt, List.any_append, ← HB.out, List.getElem?_eq_getElem hlt]; simp
        obtain ⟨s, hs⟩ : ∃ s, ns[k]?.getD [] = s := ⟨_, rfl⟩
        rw [hs] at c0 hsl hts
        have HTS := Lib.hid hts
        obtain ⟨d0, d1, d2, d3⟩ := hx.box.four
        clear hc hs hts
        cases b with
        | true =>
          go_wp2_with fail
          exact ⟨⟨k + 1, true, by omega, by go_num, rfl, Lib.hid (by rw [HTS.out]; rfl), hx, hns, hN⟩, by simp [intOf]; omega⟩
        | false =>
          have hr := reach_any K p nm _ vt _ s wr hx.plan hx.big hsz hsl
          go_wp2_with fail
          refine hr.mono ?_
          rintro e w5 ⟨x5, rfl, hr5, b5⟩
          obtain ⟨ra, rc, rfl, _, _⟩ := hr5.form
          have hi := lindex_any w5.heap.size _ (reach p s) s w5 hr5.strs hsl
          clear hr d0 d1 d2 d3 c0
          go_wp2_with fail
          refine hi.mono ?_
          rintro e w6 ⟨rfl, rfl⟩
          obtain ⟨z, hz⟩ : ∃ z, idxI (reach p s) s = z := ⟨_, rfl⟩
          rw [hz] at HTS ⊢
          have hns5 := hns.below b5 hN (Nat.le_refl _)
          have hx5 := hx.below b5
          have hsz5 := b5.size
          clear hi hz hns hx b5
          go_wp2_with fail
          exact ⟨⟨k + 1, _, by omega, by go_num, rfl, Lib.hid (by rw [HTS.out]; simp), hx5, hns5, by omega⟩, by simp [intOf]; omega⟩
      · obtain rfl : k = ns.length := by omega
        have hE : ((orderE p : Int) == 150) = b := by rw [HLAW.out, HB.out, List.take_length]
        clear HLAW HB
        go_wp2_with fail
        refine (awake_any wr).mono ?_
        rintro e w7 ⟨rfl, b7⟩
        go_wp2_with fail
        go_ret
        exact ⟨rfl, (hx.below b7).bel⟩
end Go.Proofs.Ythbnbjigmgoldaa
