/- Package order: list, Depends. No conditions beyond the readings of the arguments. -/
import Derived.Test.YthbnbjigmgoldaaOGraph
namespace Go.Proofs.Ythbnbjigmgoldaa
open Go.RowKit
set_option linter.unusedVariables false

theorem take_nat (l : List Nat) (q : Nat) (hq : q < l.length) : l.take (q + 1) = l.take q ++ [l[q]?.getD 0] := by
  rw [List.take_succ_eq_append_getElem hq, List.getElem?_eq_getElem hq]; rfl
theorem named_snoc (ns : List Str) (l : List Nat) (i : Nat) : named ns (l ++ [i]) = named ns l ++ [ns[i]?.getD []] := by simp [named]

set_option maxRecDepth 100000 in
set_option maxHeartbeats 1000000 in
theorem list_any (K : Nat) (nv mv : Value) (ns : List Str) (v : Value) (l : List Nat) (w : World) (hn : Strs K w nv ns) (hv : Nats K w v l) (hK : K ≤ w.heap.size) (hl : ∀ i ∈ l, i < ns.length) (hbig : l.length ≤ 2 ^ 39) :
    Calls Try.prog 32 #[.agg #[nv, mv], v] w fun e w' => ∃ x, e = .returned x ∧ OwnS w.heap.size w' x (named ns l) ∧ Below w.heap.size w w' := by
  obtain ⟨na, ncap, rfl, hn1, hn2⟩ := id hn.form
  obtain ⟨va, vcap, rfl, hv1, hv2⟩ := id hv.form
  obtain ⟨B0, hB0⟩ : ∃ B0, w.heap.size = B0 := ⟨_, rfl⟩
  rw [hB0] at hK ⊢
  obtain ⟨W, hW⟩ : ∃ W, w.alloc (.cells #[.slice na ns.length ncap, mv] 66) = W := ⟨_, rfl⟩
  have hb : Below B0 w W := by rw [← hW, ← hB0]; exact (Below.refl _ w).alloc (Nat.le_refl _) _
  have q : Blk W B0 #[.slice na ns.length ncap, mv] 66 := by rw [← hW, ← hB0]; exact Blk.new w _ _
  have hsz : W.heap.size = B0 + 1 := by rw [← hW, ← hB0]; simp
  have HB := Lib.hid hB0
  have HW := Lib.hid hW
  clear hB0 hW
  unfold maxLen at hv2 hn2
  go_enter Try.func32, Try.ntmps32
  go_wp2_with fail
  simp only [HB.out]
  rw [HW.out]
  go_loopw [5, 10] (fun lv i wr => ∃ k : Nat, k ≤ l.length ∧ i = .int .i64 k ∧ OwnS (B0 + 1) wr lv (named ns (l.take k)) ∧ Below B0 w wr ∧ Blk wr B0 #[.slice na ns.length ncap, mv] 66 ∧ B0 + 1 ≤ wr.heap.size) (fun _ i _ => l.length - (intOf i).toNat)
  case atStart => exact ⟨0, Nat.zero_le _, rfl, OwnS.nil _ _, hb, q, by omega⟩
  case round =>
    obtain ⟨k, hk, rfl, hown, hbw, hq, hszr⟩ := hrel
    by_cases hlt : k < l.length
    · obtain ⟨b, o, cap, he, _, _, hbK, hc⟩ := hv.pos (by omega)
      simp only [Value.slice.injEq, true_and] at he
      obtain ⟨rfl, rfl⟩ := he
      have c0 := (hbw.cell (p := ⟨b, o + k, none⟩) (Nat.lt_of_lt_of_le hbK hK)).trans (hc k hlt)
      have hts := take_nat l k hlt
      have hzl : l[k]?.getD 0 < ns.length := hl _ (by rw [List.getElem?_eq_getElem hlt]; exact List.getElem_mem hlt)
      obtain ⟨z, hz⟩ : ∃ z, l[k]?.getD 0 = z := ⟨_, rfl⟩
      rw [hz] at c0 hts hzl
      obtain ⟨nb, no, ncp, hne, _, _, hnbK, hnc⟩ := hn.pos (by omega)
      simp only [Value.slice.injEq, true_and] at hne
      obtain ⟨rfl, rfl⟩ := hne
      have s0 := (hbw.cell (p := ⟨nb, no + z, none⟩) (Nat.lt_of_lt_of_le hnbK hK)).trans (hnc z hzl)
      have hsl : (ns[z]?.getD []).length ≤ maxLen := hn.len
      obtain ⟨s, hs⟩ : ∃ s, ns[z]?.getD [] = s := ⟨_, rfl⟩
      rw [hs] at s0 hsl
      obtain ⟨g0, g1⟩ := hq.two
      have HTS : Hid (named ns (l.take (k + 1)) = named ns (l.take k) ++ [s]) := Lib.hid (by rw [hts, named_snoc, hs])
      have hl1 : (named ns (l.take k)).length + 1 ≤ 2 ^ 40 := by unfold named; rw [List.length_map, List.length_take]; omega
      obtain ⟨acc, hacc⟩ : ∃ acc, named ns (l.take k) = acc := ⟨_, rfl⟩
      rw [hacc] at hown hl1 HTS
      clear hz hs hts hc hnc hacc
      go_wp2_with (at_builtin; refine wpList_append_S rfl (.tmp 14) (.tmp 20) rfl rfl rfl (hown.old ((Below.refl _ _).alloc (Nat.le_refl _) _) (Nat.le_refl _)) ((Blk.new wr #[S s] _).at rfl) hsl hl1 (by simp; omega) ?_; intro g2 cap2 w3 hown3 hg3 hat3)
      have hbb : ∀ r, u5.ownBlock = some r → B0 + 1 ≤ r := fun r hr => (ownsRow_cells hown.1 hr).1
      have hs3 := hg3.size
      simp only [World.size_alloc] at hs3
      refine ⟨⟨k + 1, by omega, by go_num, by rw [HTS.out]; exact hown3, ?_, ?_, by omega⟩, by simp [intOf]; omega⟩
      · exact (hbw.alloc (by omega) _).trans (below_grown hg3 (fun r hr => by have := hbb r hr; omega) (by simp; omega))
      · exact (hq.alloc _).kept hg3 (fun e => by have := hbb _ e.symm; omega)
    · obtain rfl : k = l.length := by omega
      go_wp2_with fail
      go_ret
      refine ⟨_, rfl, ?_, hbw⟩
      rw [List.take_length] at hown
      exact hown.mono (by omega)
end Go.Proofs.Ythbnbjigmgoldaa
