/- GuardLast: the statement. It holds for every input; no conditions. -/
import Derived.Test.YthooiobhlbnaoaaGreatRows
import Derived.Test.YthooiobhlbnaoaaGreatGlOpn
import Derived.Test.YthooiobhlbnaoaaGreatGlLast
import Derived.ProofKit
import Derived.ShutString
import Derived.ChangeOld
import Derived.Below
import Derived.ChangeMaps5
namespace Go.Proofs.YthooiobhlbnaoaaGreat.guardLastDone
open Go.ChangeShapes Go.WideShapes Go.ChangeAt Go.RowKit Go.ChangeMaps
open Go.Proofs.YthooiobhlbnaoaaGreat
set_option linter.unusedVariables false

theorem own : ownKnob Tryz.prog.godebug = none := by kernel_rfl
theorem laidOut : laidOutB Tryz.prog = true := by kernel_rfl

set_option maxRecDepth 100000 in
theorem lifted (os : Os) (started : os.Started) (H : Type) (enc : TypeId × Value → H) :
    ReturnsInHanded {} Tryz.checked os 9 .any (Rows.guardLastSpec.pre6 enc Tryz.prog Tryz.f9 Rows.guardLastRow.domain false) (Rows.guardLastSpec.post enc Tryz.prog Tryz.f9 false true false false) := by
  refine returnsInHanded_of_change (C := Tryz.checked) own started (by kernel_rfl) Tryz.func9
    (ChangeSpec.witness6 (enc := enc) (C := Tryz.checked) false ⟨#[], #[.agg #[.string ⟨#[]⟩, .slice none 0 0, .slice none 0 0, .slice none 0 0], .string ⟨#[]⟩, .int .i64 0, .int .i64 0], []⟩ 8 (by kernel_rfl) (by kernel_rfl) (by kernel_rfl) (by kernel_rfl)) ?_
  intro W base args ds gs before hval0 hW hcnd _
  have hval : ∀ (j : Nat) t v, Tryz.f9.params[j]? = some t → args[j]? = some v → Value.okWide Tryz.prog W .any base t v := hval0
  have hW' := hW
  obtain ⟨p, q, hA0, hV, rfl, hfz, hnd⟩ := hW
  have hA : DataW.TrodAll enc Tryz.prog W 0 (fun _ => true) true Tryz.f9.params.toList args.toList ds p := hA0
  rw [Tryz.params9] at hA hval
  obtain ⟨v0, vs0, d0, ds0, p0, q0, hargs, rfl, rfl, h0, r0⟩ := trodAll_cons hA
  obtain ⟨v1, vs1, d1, ds1, p1, q1, rfl, rfl, rfl, h1, r1⟩ := trodAll_cons r0
  obtain ⟨v2, vs2, d2, ds2, p2, q2, rfl, rfl, rfl, h2, r2⟩ := trodAll_cons r1
  obtain ⟨v3, vs3, d3, ds3, p3, q3, rfl, rfl, rfl, h3, r3⟩ := trodAll_cons r2
  obtain ⟨rfl, rfl, rfl⟩ := trodAll_nil r3
  obtain rfl : args = #[v0, v1, v2, v3] := by cases args; simp_all
  obtain ⟨rfl, rfl⟩ := trodVars_none hV
  have k0 := h0
  have lt0 : ∀ x ∈ p0, x.block < W.heap.size := by obtain ⟨m, hm⟩ := k0; exact DataW.trod_lt m _ _ _ hm
  obtain ⟨c0, z0, t0, g0, y0, u0, yt0, yg0, m0, rfl, hd0, hp0, hc0, hz0, ht0, hg0⟩ := Go.Joins.open_agg4 Tryz.underlying85 (by kernel_rfl) (by kernel_rfl) (hval 0 85 v0 rfl rfl) h0
  obtain ⟨s0, e0, _, _⟩ := DataW.trod_string Tryz.underlying9 hc0
  simp only [List.cons.injEq, and_true] at e0
  subst e0
  obtain ⟨zl0, hzl0⟩ := sl_of_trod (c := 1) Tryz.underlying81 hz0
  obtain rfl : z0 = zl0.val := by simpa using hzl0
  obtain ⟨f0, bc0⟩ := gls_of_trod hg0
  obtain ⟨sl0, hsl0⟩ := sl_of_trod (c := 1) Tryz.underlying82 ht0
  obtain rfl : t0 = sl0.val := by simpa using hsl0
  obtain ⟨s1, rfl, rfl, rfl, ws1⟩ := open_string Tryz.underlying9 (hval 1 9 v1 rfl rfl) h1
  have hs1 : (Value.string s1) = S s1.data.toList := by cases s1; rfl
  have hl1 : s1.data.toList.length ≤ maxLen := by rw [Array.length_toList]; exact ws1
  obtain ⟨n2, rfl, rfl, rfl, wn2⟩ := open_int Tryz.underlying3 (hval 2 3 v2 rfl rfl) h2
  obtain ⟨n3, rfl, rfl, rfl, wn3⟩ := open_int Tryz.underlying3 (hval 3 3 v3 rfl rfl) h3
  clear hA0 hval0
  rw [hs1]
  refine (gllast_any W.heap.size s0 _ _ _ _ _ _ _ f0 s1.data.toList n2 n3 W bc0 hl1 (Nat.le_refl _)).mono fun e W' ⟨he, bel⟩ => ?_
  subst he
  exact ⟨_, rfl, _, _, _, [], _, [], hW', trodAll_mk1 (shut_bool Tryz.underlying4 _), (trodAll_cons_mk (Below.trod laidOut (by kernel_rfl) (of_decide_eq_true (by kernel_rfl)) k0 bel lt0) (trodAll_cons_mk (shut_string Tryz.underlying9 ws1) (trodAll_cons_mk (shut_int Tryz.underlying3 wn2) (trodAll_cons_mk (shut_int Tryz.underlying3 wn3) trodAll_mk0)))), rfl, bel.frame _, fun h => by cases h⟩

theorem over : Rows.guardLastRow.holds Tryz.pinned (OpenSpec.ofChange Rows.guardLastSpec) :=
  OpenClaim.holds_of_wide 9 Tryz.f9 rfl rfl rfl rfl rfl rfl rfl ⟨rfl, rfl, rfl, rfl, rfl⟩ rfl rfl rfl rfl rfl (by kernel_rfl) Tryz.func9 (by kernel_rfl)
    (of_decide_eq_true (by kernel_rfl)) (by unfold Func.isWrapper; first | (rw [if_pos (by decide +kernel)]; kernel_rfl) | (rw [if_neg (by decide +kernel)]; exact ⟨rfl, rfl⟩))
    (fun os started H enc _ => lifted os started H enc)

theorem proved : Rows.GuardLastSaid := over
#print axioms proved
end Go.Proofs.YthooiobhlbnaoaaGreat.guardLastDone
