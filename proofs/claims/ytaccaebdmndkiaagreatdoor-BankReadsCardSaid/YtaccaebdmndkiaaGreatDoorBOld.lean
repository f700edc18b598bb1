/- The statements' function old of layer 36; rows of returns that a call owns. No conditions beyond the readings of the arguments. -/
import Derived.Test.YtaccaebdmndkiaaGreatDoorBLaw
namespace Go.Proofs.YtaccaebdmndkiaaGreatDoor
open Go.RowKit
set_option linter.unusedVariables false

def rtC (o : Rt) : List Value := [.int .i64 o.ord, .int .i64 o.why]
def rtCs : List Rt → List Value
  | [] => []
  | o :: r => rtC o ++ rtCs r
theorem rtCs_append (l m : List Rt) : rtCs (l ++ m) = rtCs l ++ rtCs m := by
  induction l with
  | nil => rfl
  | cons x r ih => simp [rtCs, ih]
theorem rtCs_at (l : List Rt) (i j : Nat) (hi : i < l.length) (hj : j < 2) : (rtCs l)[i * 2 + j]? = some (.int .i64 ((l[i]?.getD Rt.z).fld j)) := by
  induction l generalizing i with
  | nil => simp at hi
  | cons x r ih =>
    cases i with
    | zero =>
      simp only [rtCs, List.getElem?_cons_zero, Option.getD_some, Nat.zero_mul, Nat.zero_add]
      rw [List.getElem?_append_left (by simp [rtC]; omega)]
      match j, hj with
      | 0, _ => rfl
      | 1, _ => rfl
    | succ i =>
      have h := ih i (by simpa using hi)
      rw [rtCs, List.getElem?_append_right (by simp [rtC]; omega)]
      rw [show (i + 1) * 2 + j - (rtC x).length = i * 2 + j by simp [rtC]; omega, h]
      simp
/-- The returns of a row of the call's own. -/
def OwnR (base : Nat) (w : World) (v : Value) (l : List Rt) : Prop := w.ownsRow base 72 2 v l.length (rtCs l)
theorem OwnR.rets {base : Nat} {w : World} {v : Value} {l : List Rt} (h : OwnR base w v l) : Rets w.heap.size w v l := by
  rcases h.2 with ⟨rfl, h0⟩ | ⟨g, cap, cur, rfl, hb, hg, hn, hm, hs, ht⟩
  · have : l = [] := List.eq_nil_of_length_eq_zero h0
    subst this
    exact Recs.nil none 0 (by simp [maxLen]) (fun _ => rfl)
  · refine Recs.mk_cells hn hm (Array.getElem?_eq_some_iff.1 hg).1 fun i hi j hj => ?_
    have := World.ownsRow.cells h (g := g) rfl (i * 2 + j) _ (rtCs_at l i j hi hj)
    rw [Addr.add] at this
    by_cases h0 : i * 2 + j = 0
    · rw [h0] at this ⊢; simpa using this
    · rw [if_neg h0] at this; simpa using this
theorem Tryz.infoRRet : (Tryz.prog.info? 72).map (fun i => (i.zero, i.size, i.bytes)) = some (some (.agg #[.int .i64 0, .int .i64 0]), 2, 16) := by kernel_rfl
theorem OwnR.nil (base : Nat) (w : World) : OwnR base w (.slice none 0 0) [] := World.ownsRow_nil w base 72 2
theorem OwnR.alloc {base : Nat} {w : World} {v : Value} {l : List Rt} (h : OwnR base w v l) (o : Obj) : OwnR base (w.alloc o) v l := World.ownsRow.alloc h o
theorem OwnR.base_le {base : Nat} {w : World} {v : Value} {l : List Rt} (h : OwnR base w v l) {r : Nat} (hr : v.ownBlock = some r) : base ≤ r := by
  rcases h.2 with ⟨rfl, _⟩ | ⟨g, cap, cur, rfl, hbg, _⟩
  · simp [Value.ownBlock] at hr
  · simp [Value.ownBlock] at hr; omega
theorem OwnR.set {base : Nat} {w : World} {v : Value} {l : List Rt} (h : OwnR base w v l) {b i : Nat} (hb : b < base) (x : Value) : OwnR base (w.setCell ⟨b, i, none⟩ x) v l := by
  refine ⟨h.1, ?_⟩
  rcases h.2 with hn | ⟨g, cap, cur, rfl, hbg, hg, rest⟩
  · exact .inl hn
  · exact .inr ⟨g, cap, cur, rfl, hbg, (Below.heap_setCell _ _ _ _ (by simp; omega)).trans hg, rest⟩
/-- append of one return to a row of the call's own. -/
theorem run_append_R (w : World) (ty : TypeId) {base : Nat} {v : Value} {l : List Rt} (o : Rt) (hown : OwnR base w v l) (h63 : l.length ≤ 8796093021952) (hbase : base ≤ w.heap.size) :
    ∃ v' w', (Builtin.append_ #[39, 39] ty #[v, .slice (some ⟨w.heap.size, 0, none⟩) 1 1]).run Tryz.prog (w.alloc (.cells #[.int .i64 o.ord, .int .i64 o.why] 72)) = .ok v' w' ∧
      OwnR base w' v' (l ++ [o]) ∧ Below base w w' := by
  obtain ⟨i0, hi, hz0, hz1, hz2⟩ := info_parts Tryz.infoRRet
  obtain ⟨v', w', h1, h2, h3, _, h5⟩ := run_append_own_at (P := Tryz.prog) (w.alloc (.cells #[.int .i64 o.ord, .int .i64 o.why] 72)) base 39 ty 72 i0 _ 2 16 Tryz.underlying39 hi hz0 hz1 hz2 rfl (by decide) v l.length _ (hown.alloc _)
    ⟨w.heap.size, 0, none⟩ 1 1 (rtC o) rfl (fun j u hj => by
      have hq := Blk.new w #[.int .i64 o.ord, .int .i64 o.why] 72
      have hc : (#[Value.int .i64 o.ord, .int .i64 o.why] : Array Value)[j]? = some u := by rw [← hj, ← Array.getElem?_toList]; rfl
      have := hq.at hc
      rw [Addr.add]
      by_cases h0 : j = 0
      · subst h0; simpa using this
      · rw [if_neg h0]; simpa using this)
    (by intro u hu; simp [rtC] at hu; rcases hu with rfl | rfl <;> rfl) (by simp only [maxLen]; omega) (by omega) (by simp; omega)
  refine ⟨v', w', h1, ?_, ?_⟩
  · unfold OwnR
    rw [List.length_append, rtCs_append]
    exact h2
  · exact ((Below.refl base w).alloc hbase _).grown h3 (by simp; omega) (fun k hk => hown.base_le hk)
theorem wp_append_R {o : Oper} {a : Act} {C : Act → World → Prop} {Q : Exit → Act → World → Prop} (s x : Operand)
    (ho : o.op = .call { callee := .builtin .append, args := #[s, x], argTypes := #[39, 39] }) (w : World) {base : Nat} {v : Value} {l : List Rt} (rt : Rt)
    (hs : a.eval s = v) (hxv : a.eval x = .slice (some ⟨w.heap.size, 0, none⟩) 1 1) (hown : OwnR base w v l) (h63 : l.length ≤ 8796093021952) (hbase : base ≤ w.heap.size)
    (h : ∀ v' w', OwnR base w' v' (l ++ [rt]) → Below base w w' → C (a.put o.dst v') w') : o.wp Tryz.prog a (w.alloc (.cells #[.int .i64 rt.ord, .int .i64 rt.why] 72)) C Q := by
  obtain ⟨v', w', hr, h2, h3⟩ := run_append_R w o.type rt hown h63 hbase
  unfold Oper.wp execOp
  simp only [ho, resolve, invoke, builtin, Sem.run_bind, Sem.run_pure, Result.andThen_ok, List.map_toArray, List.map_cons, List.map_nil, hs, hxv, hr]
  exact h v' w' h2 h3
theorem OwnR.mono {base base' : Nat} {w : World} {v : Value} {l : List Rt} (h : OwnR base w v l) (hb : base' ≤ base) : OwnR base' w v l := by
  refine ⟨h.1, ?_⟩
  rcases h.2 with hn | ⟨g, cap, cur, rfl, hbg, rest⟩
  · exact .inl hn
  · exact .inr ⟨g, cap, cur, rfl, by omega, rest⟩
theorem OwnR.old {base : Nat} {w w' : World} {v : Value} {l : List Rt} (h : OwnR base w v l) (hb : Below w.heap.size w w') : OwnR base w' v l := by
  refine ⟨h.1, ?_⟩
  rcases h.2 with hn | ⟨g, cap, cur, rfl, hbg, hg, rest⟩
  · exact .inl hn
  · have := (Array.getElem?_eq_some_iff.1 hg).1
    exact .inr ⟨g, cap, cur, rfl, hbg, (hb.block g this).trans hg, rest⟩
theorem OwnR.setB {base : Nat} {w : World} {v : Value} {l : List Rt} (h : OwnR base w v l) {b t i : Nat} {cs : Array Value} (hq : Blk w b cs t) (ht : t ≠ 72) (x : Value) : OwnR base (w.setCell ⟨b, i, none⟩ x) v l := by
  refine ⟨h.1, ?_⟩
  rcases h.2 with hn | ⟨g, cap, cur, rfl, hbg, hg, rest⟩
  · exact .inl hn
  · have hne : g ≠ b := by
      rintro rfl
      unfold Blk at hq
      rw [hg] at hq
      injection hq with h1
      injection h1 with _ h2 _
      exact ht h2.symm
    exact .inr ⟨g, cap, cur, rfl, hbg, (Below.heap_setCell _ _ _ _ (by simpa using hne)).trans hg, rest⟩
theorem OwnR.form {base : Nat} {w : World} {v : Value} {l : List Rt} (h : OwnR base w v l) : ∃ a c, v = .slice a l.length c := by
  rcases h.2 with ⟨rfl, h0⟩ | ⟨g, cap, cur, rfl, _⟩
  · exact ⟨none, 0, by rw [h0]⟩
  · exact ⟨_, _, rfl⟩
end Go.Proofs.YtaccaebdmndkiaaGreatDoor
