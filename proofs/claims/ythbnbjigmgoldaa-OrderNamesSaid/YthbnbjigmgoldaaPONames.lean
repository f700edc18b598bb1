/- OrderNames: the statement. It holds for every input; no conditions. -/
import Derived.Test.YthbnbjigmgoldaaRows
import Derived.Test.YthbnbjigmgoldaaOlOpnS
import Derived.Test.YthbnbjigmgoldaaOlNames
import Derived.ProofKit
import Derived.ShutString
import Derived.ChangeOld
import Derived.Below
import Derived.ChangeMaps5
namespace Go.Proofs.Ythbnbjigmgoldaa.orderNamesDone
open Go.ChangeShapes Go.WideShapes Go.ChangeAt Go.RowKit Go.ChangeMaps
open Go.Proofs.Ythbnbjigmgoldaa
set_option linter.unusedVariables false

theorem own : ownKnob Try.prog.godebug = none := by kernel_rfl
theorem laidOut : laidOutB Try.prog = true := by kernel_rfl

set_option maxRecDepth 100000 in
theorem lifted (os : Os) (started : os.Started) (H : Type) (enc : TypeId × Value → H) :
    ReturnsInHanded {} Try.checked os 9 .any (Rows.orderNamesSpec.pre6 enc Try.prog Try.f9 Rows.orderNamesRow.domain false) (Rows.orderNamesSpec.post enc Try.prog Try.f9 false true false false) := by
  refine returnsInHanded_of_change_sized (C := Try.checked) own started (by kernel_rfl) Try.func9
    (ChangeSpec.witness6 (enc := enc) (C := Try.checked) false ⟨#[], #[.agg #[.string ⟨#[]⟩, .slice none 0 0, .slice none 0 0, .slice none 0 0], .string ⟨#[]⟩], []⟩ 8 (by kernel_rfl) (by kernel_rfl) (by kernel_rfl) (by kernel_rfl)) ?_
  intro W base args ds gs before hval0 hW hcnd hsz _
  have hval : ∀ (j : Nat) t v, Try.f9.params[j]? = some t → args[j]? = some v → Value.okWide Try.prog W .any base t v := hval0
  have hW' := hW
  obtain ⟨p, q, hA0, hV, rfl, hfz, hnd⟩ := hW
  have hA : DataW.TrodAll enc Try.prog W 0 (fun _ => true) true Try.f9.params.toList args.toList ds p := hA0
  rw [Try.params9] at hA hval
  obtain ⟨v0, vs0, d0, ds0, p0, q0, hargs, rfl, rfl, h0, r0⟩ := trodAll_cons hA
  obtain ⟨v1, vs1, d1, ds1, p1, q1, rfl, rfl, rfl, h1, r1⟩ := trodAll_cons r0
  obtain ⟨rfl, rfl, rfl⟩ := trodAll_nil r1
  obtain rfl : args = #[v0, v1] := by cases args; simp_all
  obtain ⟨rfl, rfl⟩ := trodVars_none hV
  have k0 := h0
  have lt0 : ∀ x ∈ p0, x.block < W.heap.size := by obtain ⟨m, hm⟩ := k0; exact DataW.trod_lt m _ _ _ hm
  obtain ⟨c0, z0, t0, g0, y0, u0, yt0, yg0, m0, rfl, hd0, hp0, hc0, hz0, ht0, hg0⟩ := Go.Joins.open_agg4 Try.underlying26 (by kernel_rfl) (by kernel_rfl) (hval 0 26 v0 rfl rfl) h0
  obtain ⟨s0, e0, _, _⟩ := DataW.trod_string Try.underlying9 hc0
  simp only [List.cons.injEq, and_true] at e0
  subst e0
  have wb0 : WB (d0, p0) 26 := fun n hn => by simpa using List.all_eq_true.1 hsz n (DataW.weights_mem_each (j := 0) (t := 26) (d := d0) rfl rfl n hn)
  rw [hd0] at wb0
  have wy0 : WB y0 9 := WB.field (xs := [y0, u0, yt0, yg0]) (i := 0) wb0 Try.underlying26 rfl rfl
  have wu0 : WB u0 22 := WB.field (xs := [y0, u0, yt0, yg0]) (i := 1) wb0 Try.underlying26 rfl rfl
  have wyg0 : WB yg0 24 := WB.field (xs := [y0, u0, yt0, yg0]) (i := 3) wb0 Try.underlying26 rfl rfl
  have hs00 := str_of_trodS wy0 hc0
  obtain ⟨l0, bd0, sd0⟩ := defs_of_trodS wu0 hz0
  obtain ⟨f0, bc0, sc0⟩ := cls_of_trodS wyg0 hg0
  obtain ⟨s1, rfl, rfl, rfl, ws1⟩ := open_string Try.underlying9 (hval 1 9 v1 rfl rfl) h1
  have hs1 : (Value.string s1) = S s1.data.toList := by cases s1; rfl
  have hl1 : s1.data.toList.length ≤ maxLen := by rw [Array.length_toList]; exact ws1
  have hb1 : s1.data.toList.length ≤ 2 ^ 47 := Nat.le_trans (by simpa using List.all_eq_true.1 hsz s1.data.toList.length (DataW.weights_mem_each (j := 1) (t := 9) (d := .lit (.string s1.data.toList)) rfl rfl _ (by simp [DataW.weights]))) (show reachBytes ≤ 2 ^ 47 by decide)
  clear hA0 hval0
  rw [hs1]
  refine (names_walk W.heap.size ⟨l0, f0⟩ s0 _ _ _ s1.data.toList W ⟨bd0, bc0⟩ hb1 (by obtain ⟨s, hs, _, h2⟩ := hs00; simp only [List.cons.injEq, and_true, Value.string.injEq] at hs; rw [hs]; show s.toArray.size ≤ _; rw [List.size_toArray]; exact h2) ⟨sd0, sc0⟩ (Nat.le_refl _)).mono fun e W' ⟨he, bel⟩ => ?_
  subst he
  exact ⟨_, rfl, _, _, _, [], _, [], hW', trodAll_mk1 (shut_bool Try.underlying4 _), (trodAll_cons_mk (Below.trod laidOut (by kernel_rfl) (of_decide_eq_true (by kernel_rfl)) k0 bel lt0) (trodAll_cons_mk (shut_string Try.underlying9 ws1) trodAll_mk0)), rfl, bel.frame _, fun h => by cases h⟩

theorem over : Rows.orderNamesRow.holds Try.pinned (OpenSpec.ofChange Rows.orderNamesSpec) :=
  OpenClaim.holds_of_wide 9 Try.f9 rfl rfl rfl rfl rfl rfl rfl ⟨rfl, rfl, rfl, rfl, rfl⟩ rfl rfl rfl rfl rfl (by kernel_rfl) Try.func9 (by kernel_rfl)
    (of_decide_eq_true (by kernel_rfl)) (by unfold Func.isWrapper; first | (rw [if_pos (by decide +kernel)]; kernel_rfl) | (rw [if_neg (by decide +kernel)]; exact ⟨rfl, rfl⟩))
    (fun os started H enc _ => lifted os started H enc)

theorem proved : Rows.OrderNamesSaid := over
#print axioms proved
end Go.Proofs.Ythbnbjigmgoldaa.orderNamesDone
