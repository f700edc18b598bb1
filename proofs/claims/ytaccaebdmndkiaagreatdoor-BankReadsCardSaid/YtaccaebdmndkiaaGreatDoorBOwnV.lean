/- Rows of values of one cell each that a call owns; append of one; what stays meanwhile. No conditions. -/
import Derived.Test.YtaccaebdmndkiaaGreatDoorBRow
namespace Go.Proofs.YtaccaebdmndkiaaGreatDoor
open Go.RowKit
set_option linter.unusedVariables false

def OwnV (base T : Nat) (w : World) (v : Value) (vs : List Value) : Prop := w.ownsRow base T 1 v vs.length vs
theorem OwnV.nil (base T : Nat) (w : World) : OwnV base T w (.slice none 0 0) [] := World.ownsRow_nil w base T 1
theorem OwnV.alloc {base T : Nat} {w : World} {v : Value} {vs : List Value} (h : OwnV base T w v vs) (o : Obj) : OwnV base T (w.alloc o) v vs := World.ownsRow.alloc h o
theorem OwnV.same {base T : Nat} {w w' : World} {v : Value} {vs : List Value} (h : OwnV base T w v vs) (hs : ∀ (b : Nat) (cs : Array Value) (f : Nat × Nat), w.heap[b]? = some (Obj.cells cs T f) → w'.heap[b]? = w.heap[b]?) : OwnV base T w' v vs := by
  refine ⟨h.1, ?_⟩
  rcases h.2 with hn | ⟨g, cap, cur, rfl, hbg, hg, rest⟩
  · exact .inl hn
  · exact .inr ⟨g, cap, cur, rfl, hbg, (hs g _ _ hg).trans hg, rest⟩
theorem OwnV.old {base T : Nat} {w w' : World} {v : Value} {vs : List Value} (h : OwnV base T w v vs) (hb : Below w.heap.size w w') : OwnV base T w' v vs :=
  h.same fun b _ _ hg => hb.block b (Array.getElem?_eq_some_iff.1 hg).1
theorem OwnV.base_le {base T : Nat} {w : World} {v : Value} {vs : List Value} (h : OwnV base T w v vs) {r : Nat} (hr : v.ownBlock = some r) : base ≤ r := by
  rcases h.2 with ⟨rfl, _⟩ | ⟨g, cap, cur, rfl, hbg, _⟩
  · simp [Value.ownBlock] at hr
  · simp [Value.ownBlock] at hr; omega
theorem OwnV.own {base T : Nat} {w : World} {v : Value} {vs : List Value} (h : OwnV base T w v vs) {r : Nat} (hr : v.ownBlock = some r) : ∃ cs f, w.heap[r]? = some (.cells cs T f) := by
  rcases h.2 with ⟨rfl, _⟩ | ⟨g, cap, cur, rfl, hbg, hg, _⟩
  · simp [Value.ownBlock] at hr
  · simp only [Value.ownBlock, Option.some.injEq] at hr; subst hr; exact ⟨_, _, hg⟩
theorem OwnV.mono {base base' T : Nat} {w : World} {v : Value} {vs : List Value} (h : OwnV base T w v vs) (hb : base' ≤ base) : OwnV base' T w v vs := by
  refine ⟨h.1, ?_⟩
  rcases h.2 with hn | ⟨g, cap, cur, rfl, hbg, rest⟩
  · exact .inl hn
  · exact .inr ⟨g, cap, cur, rfl, Nat.le_trans hb hbg, rest⟩
theorem OwnV.form {base T : Nat} {w : World} {v : Value} {vs : List Value} (h : OwnV base T w v vs) : ∃ a cap, v = .slice a vs.length cap := by
  rcases h.2 with ⟨rfl, h0⟩ | ⟨g, cap, cur, rfl, _⟩
  · exact ⟨none, 0, by rw [h0]⟩
  · exact ⟨_, _, rfl⟩
theorem OwnV.cases {base T : Nat} {w : World} {v : Value} {vs : List Value} (h : OwnV base T w v vs) :
    (v = .slice none 0 0 ∧ vs = []) ∨ ∃ g cap, v = .slice (some ⟨g, 0, none⟩) vs.length cap ∧ base ≤ g ∧ g < w.heap.size ∧ vs.length ≤ cap ∧ cap ≤ maxLen ∧ (∃ cs f, w.heap[g]? = some (.cells cs T f)) ∧
      ∀ i x, vs[i]? = some x → w.cell? ⟨g, i, none⟩ = some x := by
  rcases h.2 with ⟨rfl, h0⟩ | ⟨g, cap, cur, rfl, hb, hg, hn, hm, hs, ht⟩
  · exact .inl ⟨rfl, List.eq_nil_of_length_eq_zero h0⟩
  · refine .inr ⟨g, cap, rfl, hb, (Array.getElem?_eq_some_iff.1 hg).1, hn, hm, ⟨_, _, hg⟩, fun i x hx => ?_⟩
    have := World.ownsRow.cells h (g := g) rfl i x hx
    rw [Addr.add] at this
    by_cases h0 : i = 0
    · rw [h0] at this ⊢; simpa using this
    · rw [if_neg h0] at this; simpa using this
/-- append of one. -/
theorem run_append_V (w : World) (ty t T : TypeId) (by_ : Nat) (z : Value) (hu : Tryz.prog.underlying t = some (.slice T)) (hinfo : (Tryz.prog.info? T).map (fun i => (i.zero, i.size, i.bytes)) = some (some z, 1, by_)) (hz : z.cells.size = 1) (hby : by_ ≤ 40)
    {base : Nat} {v : Value} {vs : List Value} (x : Value) (hx : x.oneCell' = true) (hown : OwnV base T w v vs) (h63 : vs.length ≤ 3000000) (hbase : base ≤ w.heap.size) :
    ∃ v' w', (Builtin.append_ #[t, t] ty #[v, .slice (some ⟨w.heap.size, 0, none⟩) 1 1]).run Tryz.prog (w.alloc (.cells #[x] T)) = .ok v' w' ∧
      OwnV base T w' v' (vs ++ [x]) ∧ (w.alloc (.cells #[x] T)).grownBy w' v.ownBlock := by
  obtain ⟨i0, hi, hz0, hz1, hz2⟩ := info_parts hinfo
  obtain ⟨v', w', h1, h2, h3, _, h5⟩ := run_append_own_at (P := Tryz.prog) (w.alloc (.cells #[x] T)) base t ty T i0 z 1 by_ hu hi hz0 hz1 hz2 hz (by omega) v vs.length _ (hown.alloc _)
    ⟨w.heap.size, 0, none⟩ 1 1 [x] (by simp) (fun j u hj => by
      obtain ⟨rfl, rfl⟩ : j = 0 ∧ x = u := by
        cases j with
        | zero => exact ⟨rfl, by simpa using hj⟩
        | succ j => simp at hj
      have hq := Blk.new w #[x] T
      have := hq.at (i := 0) (x := x) rfl
      rw [Addr.add]
      simp)
    (by intro u hu; simp only [List.mem_cons, List.not_mem_nil, or_false] at hu; rw [hu]; exact hx) (by simp only [maxLen]; omega) (by have : (vs.length + 1) * by_ ≤ 3000001 * 40 := Nat.mul_le_mul (by omega) (by omega); omega) (by simp; omega)
  refine ⟨v', w', h1, ?_, h3⟩
  unfold OwnV
  rw [List.length_append]
  exact h2
theorem wpList_append_V {ops : Array Oper} {rest : List Oper} {o : Oper} {a : Act} {Q : Exit → Act → World → Prop} (hgd : o.guard = none) (s y : Operand) (t T : TypeId) (by_ : Nat) (z : Value)
    (hu : Tryz.prog.underlying t = some (.slice T)) (hinfo : (Tryz.prog.info? T).map (fun i => (i.zero, i.size, i.bytes)) = some (some z, 1, by_)) (hz : z.cells.size = 1) (hby : by_ ≤ 40)
    (ho : o.op = .call { callee := .builtin .append, args := #[s, y], argTypes := #[t, t] }) (w : World) {base : Nat} {v : Value} {vs : List Value} (x : Value) (hx : x.oneCell' = true)
    (hs : a.eval s = v) (hxv : a.eval y = .slice (some ⟨w.heap.size, 0, none⟩) 1 1) (hown : OwnV base T w v vs) (h63 : vs.length ≤ 3000000) (hbase : base ≤ w.heap.size)
    (h : ∀ v' w', OwnV base T w' v' (vs ++ [x]) → (w.alloc (.cells #[x] T)).grownBy w' v.ownBlock → Below base w w' → wpList Tryz.prog ops Q rest (a.put o.dst v') w') :
    wpList Tryz.prog ops Q (o :: rest) a (w.alloc (.cells #[x] T)) :=
  wpList_plain hgd fun _ hK => by
    obtain ⟨v', w', hr, h2, h3⟩ := run_append_V w o.type t T by_ z hu hinfo hz hby x hx hown h63 hbase
    unfold Oper.wp execOp
    simp only [ho, resolve, invoke, builtin, Sem.run_bind, Sem.run_pure, Result.andThen_ok, List.map_toArray, List.map_cons, List.map_nil, hs, hxv, hr]
    exact hK _ _ (h v' w' h2 h3 (((Below.refl base w).alloc hbase _).grown h3 (by simp; omega) (fun k hk => hown.base_le hk)))
theorem blk_grownV {base T b t : Nat} {A C : World} {cs : Array Value} {v : Value} {vs : List Value} (hq : Blk A b cs t) (hg : A.grownBy C v.ownBlock) (ht : t ≠ T) (ho : OwnV base T A v vs) : Blk C b cs t := by
  refine (hg.block b hq.lt ?_).trans hq
  intro e
  obtain ⟨cs', f, h⟩ := ho.own e.symm
  unfold Blk at hq
  rw [h] at hq
  injection hq with h1
  injection h1 with _ h2 _
  exact ht h2.symm
end Go.Proofs.YtaccaebdmndkiaaGreatDoor
