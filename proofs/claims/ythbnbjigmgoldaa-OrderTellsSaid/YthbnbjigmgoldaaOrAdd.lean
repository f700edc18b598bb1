/- The reference of layer 15: add. No conditions beyond the readings of the arguments. -/
import Derived.Test.YthbnbjigmgoldaaOrIn
import Derived.Test.YthbnbjigmgoldaaORow0
namespace Go.Proofs.Ythbnbjigmgoldaa
open Go.RowKit
set_option linter.unusedVariables false

theorem wpList_append_SS {w : World} {ops : Array Oper} {rest : List Oper} {o : Oper} {a : Act} {Q : Exit → Act → World → Prop} (hgd : o.guard = none) (s x : Operand)
    (ho : o.op = .call { callee := .builtin .append, args := #[s, x], argTypes := #[29, 29] })
    {base K : Nat} {v u : Value} {l m : List Str} (hs : a.eval s = v) (hx : a.eval x = u) (hown : OwnS base w v l) (hu : Strs K w u m) (hm : 0 < m.length)
    (h63 : l.length + m.length ≤ 2 ^ 40) (hbase : base ≤ w.heap.size)
    (h : ∀ g cap w', OwnS base w' (.slice (some ⟨g, 0, none⟩) (l.length + m.length) cap) (l ++ m) → w.grownBy w' v.ownBlock → (v.ownBlock = some g ∨ g = w.heap.size) → wpList Try.prog ops Q rest (a.put o.dst (.slice (some ⟨g, 0, none⟩) (l.length + m.length) cap)) w') : wpList Try.prog ops Q (o :: rest) a w := by
  obtain ⟨i0, hi, hz0, hz1, hz2⟩ := info_parts Try.infoStr
  obtain ⟨b, p, c, rfl, _, _, _, hc⟩ := hu.pos hm
  refine wpList_append_lies w hgd s x 29 ho base 9 i0 _ 1 16 Try.underlying29 hi hz0 hz1 hz2 rfl (by decide) v l.length (l.map S) hs hown.1 ⟨b, p, none⟩ m.length c (m.map S) hx (by simp)
    (fun j u hj => by
      rw [List.getElem?_map] at hj
      obtain ⟨z, hz, rfl⟩ := Option.map_eq_some_iff.1 hj
      have hjl := (List.getElem?_eq_some_iff.1 hz).1
      have h1 : w.cell? ⟨b, p + j, none⟩ = some (S z) := by rw [hc j hjl, hz]; rfl
      clear hc
      by_cases e : j = 0
      · subst e; simpa [Addr.add] using h1
      · simpa [Addr.add, e] using h1)
    (fun u hu => by obtain ⟨z, _, rfl⟩ := List.mem_map.1 hu; rfl) hm (by simp [maxLen]; omega) (by omega) hbase _ rfl fun g cap w' h1 h2 h3 h4 => h g cap w' ⟨?_, ?_⟩ h2 h3
  · rw [List.length_append, List.map_append]
    exact h1
  · intro s hs'
    rcases List.mem_append.1 hs' with h' | h'
    · exact hown.2 s h'
    · exact hu.2 s h'

theorem wpList_append_SA {w : World} {ops : Array Oper} {rest : List Oper} {o : Oper} {a : Act} {Q : Exit → Act → World → Prop} (hgd : o.guard = none) (s x : Operand)
    (ho : o.op = .call { callee := .builtin .append, args := #[s, x], argTypes := #[29, 29] })
    {base K : Nat} {v u : Value} {l m : List Str} (hs : a.eval s = v) (hx : a.eval x = u) (hown : OwnS base w v l) (hu : Strs K w u m)
    (h63 : l.length + m.length ≤ 2 ^ 40) (hbase : base ≤ w.heap.size)
    (h : ∀ v' w', OwnS base w' v' (l ++ m) → w.grownBy w' v.ownBlock → wpList Try.prog ops Q rest (a.put o.dst v') w') : wpList Try.prog ops Q (o :: rest) a w := by
  by_cases hm : 0 < m.length
  · exact wpList_append_SS hgd s x ho hs hx hown hu hm h63 hbase fun g cap w' h1 h2 h3 => h _ w' h1 h2
  · have hm0 : m = [] := List.eq_nil_of_length_eq_zero (by omega)
    subst hm0
    obtain ⟨so, n, rfl, hn, _⟩ := hown.form
    obtain ⟨ao, q, rfl, _, _⟩ := hu.form
    exact wpList_plain hgd fun _ hK => wp_append_none (c := 1) (T := 9) s x 29 ho Try.underlying29 (by kernel_rfl) hs hn hx (hK _ _ (h _ w (by rw [List.append_nil]; exact hown) (grownBy_refl _ _)))

theorem inI_lt {l : List Str} {s : Str} (h : s ∉ l) : inI l s = -1 := inI_neg fun x hx e => h (e ▸ hx)
theorem inI_ge {l : List Str} {s : Str} (h : s ∈ l) : 0 ≤ inI l s := by unfold inI; rw [if_pos (List.contains_iff_mem.2 h)]; omega
theorem addS_length {l : List Str} {s : Str} : (addS l s).length ≤ l.length + 1 := by unfold addS; split <;> simp

set_option maxRecDepth 100000 in
set_option maxHeartbeats 1000000 in
theorem radd_any (K : Nat) (v : Value) (l : List Str) (s : Str) (w : World) (hv : Strs K w v l) (hs : s.length ≤ maxLen) (hK : K ≤ w.heap.size) (hl : l.length ≤ 2 ^ 39) :
    Calls Try.prog 36 #[v, S s] w fun e w' => ∃ x, e = .returned x ∧ Strs w'.heap.size w' x (addS l s) ∧ Below w.heap.size w w' := by
  obtain ⟨va, vcap, rfl, hv1, hv2⟩ := id hv.form
  unfold maxLen at hv2
  have hi := in_any K _ l s w hv hs
  by_cases hm : s ∈ l
  · have hz : ¬ (inI l s < 0) := by have := inI_ge hm; omega
    have hz2 : 0 ≤ inI l s := inI_ge hm
    have HA := Lib.hid (addS_in hm)
    obtain ⟨z, hzE⟩ : ∃ z, inI l s = z := ⟨_, rfl⟩
    rw [hzE] at hi hz hz2
    clear hzE
    go_enter Try.func36, Try.ntmps36
    go_wp2_with fail
    refine hi.mono ?_
    rintro e w2 ⟨rfl, rfl⟩
    go_wp2_with fail
    go_ret
    exact ⟨_, rfl, by rw [HA.out]; exact hv.below (Below.refl _ _) hK hK, Below.refl _ _⟩
  · rw [inI_lt hm] at hi
    have HA := Lib.hid (addS_out hm)
    obtain ⟨W1, hW1⟩ : ∃ W1, w.alloc (.cells #[] 9) = W1 := ⟨_, rfl⟩
    have b1 : Below w.heap.size w W1 := by rw [← hW1]; exact (Below.refl _ _).alloc (Nat.le_refl _) _
    have s1 : W1.heap.size = w.heap.size + 1 := by rw [← hW1]; simp
    have q1 : Blk W1 w.heap.size #[] 9 := by rw [← hW1]; exact Blk.new w _ _
    have own0 : OwnS w.heap.size W1 (.slice (some ⟨w.heap.size, 0, none⟩) 0 0) [] := ⟨⟨rfl, .inr ⟨_, 0, #[], rfl, Nat.le_refl _, q1, Nat.le_refl _, by simp [maxLen], rfl, rfl⟩⟩, by simp⟩
    have hv' := hv.below b1 hK (Nat.le_refl _)
    have HW1 := Lib.hid hW1
    clear hW1
    go_enter Try.func36, Try.ntmps36
    go_wp2_with fail
    refine hi.mono ?_
    rintro e w2 ⟨rfl, rfl⟩
    clear hi
    go_wp2_with (at_builtin; rw [HW1.out]; refine wpList_append_SA rfl (.tmp 10) (.tmp 11) rfl rfl rfl own0 hv' (by simp; omega) (by omega) ?_)
    intro v3 W3 own3 g3
    try rw [List.nil_append] at own3
    have b3 : Below w.heap.size w W3 := b1.trans (below_grown g3 (fun r hr => (ownsRow_cells own0.1 hr).1) (by omega))
    obtain ⟨a3, c3, rfl, h31, h32⟩ := own3.form
    have s3 := g3.size
    have own3' := own3.old (w' := W3.alloc (.cells #[S s] 9)) ((Below.refl _ _).alloc (Nat.le_refl _) _) (Nat.le_refl _)
    have q3 := (Blk.new W3 #[S s] 9).at (i := 0) rfl
    go_wp2_with (at_builtin; refine wpList_append_S rfl (.tmp 12) (.tmp 14) rfl rfl rfl own3' q3 hs (by omega) (by simp; omega) ?_; intro g4 cap4 w4 own4 hg4 hat4)
    go_ret
    have b4 : Below w.heap.size w w4 := (b3.alloc (by omega) (.cells #[S s] 9)).trans (below_grown hg4 (fun r hr => (ownsRow_cells own3.1 hr).1) (by simp; omega))
    exact ⟨_, rfl, by rw [HA.out]; exact own4.strs, b4⟩
end Go.Proofs.Ythbnbjigmgoldaa
