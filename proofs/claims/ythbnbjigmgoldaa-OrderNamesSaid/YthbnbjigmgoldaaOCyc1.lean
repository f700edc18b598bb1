/- Package order: the closures of Cycle, slices.IndexFunc with them. No conditions beyond the readings of the arguments. -/
import Derived.Test.YthbnbjigmgoldaaOReach
namespace Go.Proofs.Ythbnbjigmgoldaa
open Go.RowKit
set_option linter.unusedVariables false

/-- A set in a box. -/
structure SetIs (w : World) (T Mt : Nat) (tk : List Nat) : Prop where
  box : Blk w T #[.map (some Mt)] 77
  map : ∃ m, MapIs w 3 Mt m (fN (inSet tk))
theorem SetIs.look {w : World} {T Mt : Nat} {tk : List Nat} (h : SetIs w T Mt tk) (z : Nat) (hz : z ≤ 2 ^ 62) : (Instr.lookup 77 (.map (some Mt)) (.int .i64 z) false).run Try.prog w = .ok (.bool (tk.contains z)) w := by
  obtain ⟨m, hm⟩ := h.map
  have := hm.look (t := 77) keyN Try.underlying77 (Try.zeroValue4 _) (keyOf_Z z hz)
  rw [this, fN_at _ _ hz, inSet_get]
theorem SetIs.below {w w' : World} {T Mt B : Nat} {tk : List Nat} (h : SetIs w T Mt tk) (hb : Below B w w') (hT : T < B) (hM : Mt < B) : SetIs w' T Mt tk :=
  ⟨h.box.below hb hT, let ⟨m, hm⟩ := h.map; ⟨m, hm.below hb hM⟩⟩

theorem nottaken_any (z T Mt : Nat) (tk : List Nat) (w : World) (h : SetIs w T Mt tk) (hz : z ≤ 2 ^ 62) : Calls Try.prog 42 #[.int .i64 z, .pointer (some ⟨T, 0, none⟩)] w fun e w' => e = .returned (.bool (!tk.contains z)) ∧ w = w' := by
  have hl := h.look z hz
  obtain ⟨b0, b1⟩ := h.box.one
  obtain ⟨ct, hct⟩ : ∃ ct, tk.contains z = ct := ⟨_, rfl⟩
  rw [hct] at hl ⊢
  clear hct
  go_enter Try.func42, Try.ntmps42
  go_wp2_with fail
  go_ret
  exact ⟨rfl, rfl⟩

set_option maxRecDepth 100000 in
set_option maxHeartbeats 1000000 in
theorem index_any (K : Nat) (v : Value) (l tk : List Nat) (T Mt : Nat) (w : World) (hv : Nats K w v l) (h : SetIs w T Mt tk) (hl : ∀ i ∈ l, i ≤ 2 ^ 62) (hx : ∃ i ∈ l, tk.contains i = false) :
    Calls Try.prog 41 #[v, .func (.func 42) #[] #[.pointer (some ⟨T, 0, none⟩)]] w fun e w' => (∃ q, q < l.length ∧ e = .returned (.int .i64 q) ∧ (l.find? fun d => !tk.contains d) = some (fn l q)) ∧ w = w' := by
  obtain ⟨va, vcap, rfl, hv1, hv2⟩ := id hv.form
  unfold maxLen at hv2
  go_enter Try.func41, Try.ntmps41
  go_wp2_with fail
  go_loopw [8] (fun i wr => w = wr ∧ ∃ k, k ≤ l.length ∧ i = .int .i64 k ∧ ∀ x ∈ l.take k, tk.contains x = true) (fun i _ => l.length - (intOf i).toNat)
  case atStart => exact ⟨rfl, 0, Nat.zero_le _, rfl, fun x hx => by simp at hx⟩
  case round =>
    obtain ⟨rfl, k, hk, rfl, hall⟩ := hrel
    by_cases hlt : k < l.length
    · obtain ⟨b, o, cap, he, _, _, hbK, hc⟩ := hv.pos (by omega)
      simp only [Value.slice.injEq, true_and] at he
      obtain ⟨rfl, rfl⟩ := he
      have c0 := hc k hlt
      have hts := take_nat l k hlt
      have hzl : l[k]?.getD 0 ≤ 2 ^ 62 := hl _ (by rw [List.getElem?_eq_getElem hlt]; exact List.getElem_mem hlt)
      have hfk : fn l k = l[k]?.getD 0 := rfl
      have HFK : l[k] = fn l k := by unfold fn; rw [List.getElem?_eq_getElem hlt]; rfl
      obtain ⟨z, hz⟩ : ∃ z, l[k]?.getD 0 = z := ⟨_, rfl⟩
      rw [hz] at c0 hts hzl hfk
      have c0 : w.cell? ⟨b, o + k, none⟩ = some (.int .i64 (z : Int)) := c0
      have hnt := nottaken_any z T Mt tk w h hzl
      obtain ⟨ct, hct⟩ : ∃ ct, tk.contains z = ct := ⟨_, rfl⟩
      rw [hct] at hnt
      have HCT := Lib.hid hct
      have HTS := Lib.hid hts
      have HF := Lib.hid hfk
      have HFK2 := Lib.hid HFK
      have HALL := Lib.hid hall
      clear hz hts hc hct hfk HFK hall
      go_wp2_with fail
      refine hnt.mono ?_
      clear hnt
      rintro e w' ⟨rfl, rfl⟩
      cases ct with
      | true =>
        go_wp2_with fail
        have hnx : ∀ x ∈ l.take (k + 1), tk.contains x = true := by
          rw [HTS.out]
          intro x hx
          rcases List.mem_append.1 hx with hx | hx
          · exact HALL.out x hx
          · obtain rfl := List.mem_singleton.1 hx
            exact HCT.out
        exact ⟨⟨by first | trivial | rfl, k + 1, by omega, by go_num, hnx⟩, by simp [intOf]; omega⟩
      | false =>
        go_wp2_with fail
        go_ret
        refine ⟨⟨k, hlt, rfl, ?_⟩, rfl⟩
        rw [List.find?_eq_some_iff_getElem]
        refine ⟨by rw [HF.out, HCT.out]; rfl, k, hlt, HFK2.out, fun j hj => ?_⟩
        have := HALL.out l[j] (List.mem_take_iff_getElem.2 ⟨j, by omega, rfl⟩)
        rw [this]; rfl
    · obtain rfl : k = l.length := by omega
      rw [List.take_length] at hall
      obtain ⟨x, hx1, hx2⟩ := hx
      rw [hall x hx1] at hx2
      cases hx2

set_option maxRecDepth 100000 in
theorem first_any (K : Nat) (v : Value) (l tk : List Nat) (T Mt : Nat) (w : World) (hv : Nats K w v l) (h : SetIs w T Mt tk) (hl : ∀ i ∈ l, i ≤ 2 ^ 62) (hx : ∃ i ∈ l, tk.contains i = false) :
    Calls Try.prog 40 #[v, .pointer (some ⟨T, 0, none⟩)] w fun e w' => e = .returned (.int .i64 ((l.find? fun d => !tk.contains d).getD 0 : Nat)) ∧ w = w' := by
  have hix := index_any K v l tk T Mt w hv h hl hx
  obtain ⟨i0, hi0, _⟩ := hx
  obtain ⟨b, o, cap, rfl, hn1, hn2, hbK, hc⟩ := hv.pos (List.length_pos_of_mem hi0)
  unfold maxLen at hn2
  go_enter Try.func40, Try.ntmps40
  go_wp2_with fail
  refine hix.mono ?_
  clear hix
  rintro e w' ⟨⟨q, hq, rfl, hf⟩, rfl⟩
  have c0 : w.cell? ⟨b, o + q, none⟩ = some (.int .i64 (fn l q : Int)) := hc q hq
  have HF := Lib.hid hf
  clear hc hf
  obtain ⟨z, hz⟩ : ∃ z, fn l q = z := ⟨_, rfl⟩
  rw [hz] at c0
  have HZ := Lib.hid hz
  clear hz
  go_wp2_with fail
  go_ret
  exact ⟨by rw [HF.out, HZ.out]; rfl, rfl⟩
end Go.Proofs.Ythbnbjigmgoldaa
