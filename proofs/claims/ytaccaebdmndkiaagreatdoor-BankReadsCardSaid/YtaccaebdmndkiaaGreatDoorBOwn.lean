/- Rows of orders and of returns that a call owns; append of one. No conditions. -/
import Derived.Test.YtaccaebdmndkiaaGreatDoorBVal
namespace Go.Proofs.YtaccaebdmndkiaaGreatDoor
open Go.RowKit
set_option linter.unusedVariables false

def odC (o : Od) : List Value := [.int .i64 o.num, .int .i64 o.acc, .int .i64 o.gross, .int .i64 o.tax, .int .i64 o.net]
def odCs : List Od → List Value
  | [] => []
  | o :: r => odC o ++ odCs r
theorem odCs_append (l m : List Od) : odCs (l ++ m) = odCs l ++ odCs m := by
  induction l with
  | nil => rfl
  | cons x r ih => simp [odCs, ih]
theorem odCs_length (l : List Od) : (odCs l).length = l.length * 5 := by
  induction l with
  | nil => rfl
  | cons x r ih => simp only [odCs, List.length_append, ih, List.length_cons, odC, List.length_nil]; omega
theorem odCs_at (l : List Od) (i j : Nat) (hi : i < l.length) (hj : j < 5) : (odCs l)[i * 5 + j]? = some (.int .i64 ((l[i]?.getD Od.z).fld j)) := by
  induction l generalizing i with
  | nil => simp at hi
  | cons x r ih =>
    cases i with
    | zero =>
      simp only [odCs, List.getElem?_cons_zero, Option.getD_some, Nat.zero_mul, Nat.zero_add]
      rw [List.getElem?_append_left (by simp [odC]; omega)]
      match j, hj with
      | 0, _ => rfl
      | 1, _ => rfl
      | 2, _ => rfl
      | 3, _ => rfl
      | 4, _ => rfl
    | succ i =>
      have h := ih i (by simpa using hi)
      rw [odCs, List.getElem?_append_right (by simp [odC]; omega)]
      rw [show (i + 1) * 5 + j - (odC x).length = i * 5 + j by simp [odC]; omega, h]
      simp
/-- The orders of a row of the call's own. -/
def OwnO (base : Nat) (w : World) (v : Value) (l : List Od) : Prop := w.ownsRow base 47 5 v l.length (odCs l)
theorem OwnO.ords {base : Nat} {w : World} {v : Value} {l : List Od} (h : OwnO base w v l) : Ords w.heap.size w v l := by
  rcases h.2 with ⟨rfl, h0⟩ | ⟨g, cap, cur, rfl, hb, hg, hn, hm, hs, ht⟩
  · have : l = [] := List.eq_nil_of_length_eq_zero h0
    subst this
    exact Recs.nil none 0 (by simp [maxLen]) (fun _ => rfl)
  · refine Recs.mk_cells hn hm (Array.getElem?_eq_some_iff.1 hg).1 fun i hi j hj => ?_
    have := World.ownsRow.cells h (g := g) rfl (i * 5 + j) _ (odCs_at l i j hi hj)
    rw [Addr.add] at this
    by_cases h0 : i * 5 + j = 0
    · rw [h0] at this ⊢; simpa using this
    · rw [if_neg h0] at this; simpa using this
theorem Tryz.infoOrder : (Tryz.prog.info? 47).map (fun i => (i.zero, i.size, i.bytes)) = some (some (.agg #[.int .i64 0, .int .i64 0, .int .i64 0, .int .i64 0, .int .i64 0]), 5, 40) := by kernel_rfl
theorem OwnO.nil (base : Nat) (w : World) : OwnO base w (.slice none 0 0) [] := World.ownsRow_nil w base 47 5
theorem OwnO.alloc {base : Nat} {w : World} {v : Value} {l : List Od} (h : OwnO base w v l) (o : Obj) : OwnO base (w.alloc o) v l := World.ownsRow.alloc h o
theorem OwnO.old {base : Nat} {w w' : World} {v : Value} {l : List Od} (h : OwnO base w v l) (hb : Below w.heap.size w w') : OwnO base w' v l := by
  refine ⟨h.1, ?_⟩
  rcases h.2 with hn | ⟨g, cap, cur, rfl, hbg, hg, rest⟩
  · exact .inl hn
  · have := (Array.getElem?_eq_some_iff.1 hg).1
    exact .inr ⟨g, cap, cur, rfl, hbg, (hb.block g this).trans hg, rest⟩
theorem OwnO.base_le {base : Nat} {w : World} {v : Value} {l : List Od} (h : OwnO base w v l) {r : Nat} (hr : v.ownBlock = some r) : base ≤ r := by
  rcases h.2 with ⟨rfl, _⟩ | ⟨g, cap, cur, rfl, hbg, _⟩
  · simp [Value.ownBlock] at hr
  · simp [Value.ownBlock] at hr; omega
/-- append of one order to a row of the call's own. -/
theorem run_append_O (w : World) (ty : TypeId) {base : Nat} {v : Value} {l : List Od} (o : Od) (hown : OwnO base w v l) (h63 : l.length ≤ 3000000) (hbase : base ≤ w.heap.size) :
    ∃ v' w', (Builtin.append_ #[25, 25] ty #[v, .slice (some ⟨w.heap.size, 0, none⟩) 1 1]).run Tryz.prog (w.alloc (.cells #[.int .i64 o.num, .int .i64 o.acc, .int .i64 o.gross, .int .i64 o.tax, .int .i64 o.net] 47)) = .ok v' w' ∧
      OwnO base w' v' (l ++ [o]) ∧ Below base w w' := by
  obtain ⟨i0, hi, hz0, hz1, hz2⟩ := info_parts Tryz.infoOrder
  obtain ⟨v', w', h1, h2, h3, _, h5⟩ := run_append_own_at (P := Tryz.prog) (w.alloc (.cells #[.int .i64 o.num, .int .i64 o.acc, .int .i64 o.gross, .int .i64 o.tax, .int .i64 o.net] 47)) base 25 ty 47 i0 _ 5 40 Tryz.underlying25 hi hz0 hz1 hz2 rfl (by decide) v l.length _ (hown.alloc _)
    ⟨w.heap.size, 0, none⟩ 1 1 (odC o) rfl (fun j u hj => by
      have hq := Blk.new w #[.int .i64 o.num, .int .i64 o.acc, .int .i64 o.gross, .int .i64 o.tax, .int .i64 o.net] 47
      have hj5 : j < 5 := (List.getElem?_eq_some_iff.1 hj).1
      have hc : (#[Value.int .i64 o.num, .int .i64 o.acc, .int .i64 o.gross, .int .i64 o.tax, .int .i64 o.net] : Array Value)[j]? = some u := by rw [← hj, ← Array.getElem?_toList]; rfl
      have := hq.at hc
      rw [Addr.add]
      by_cases h0 : j = 0
      · subst h0; simpa using this
      · rw [if_neg h0]; simpa using this)
    (by intro u hu; simp [odC] at hu; rcases hu with rfl | rfl | rfl | rfl | rfl <;> rfl) (by simp only [maxLen]; omega) (by omega) (by simp; omega)
  refine ⟨v', w', h1, ?_, ?_⟩
  · unfold OwnO
    rw [List.length_append, odCs_append]
    exact h2
  · exact ((Below.refl base w).alloc hbase _).grown h3 (by simp; omega) (fun k hk => hown.base_le hk)
theorem wpList_append_O {ops : Array Oper} {rest : List Oper} {o : Oper} {a : Act} {Q : Exit → Act → World → Prop} (hgd : o.guard = none) (s x : Operand)
    (ho : o.op = .call { callee := .builtin .append, args := #[s, x], argTypes := #[25, 25] }) (w : World) {base : Nat} {v : Value} {l : List Od} (od : Od)
    (hs : a.eval s = v) (hxv : a.eval x = .slice (some ⟨w.heap.size, 0, none⟩) 1 1) (hown : OwnO base w v l) (h63 : l.length ≤ 3000000) (hbase : base ≤ w.heap.size)
    (h : ∀ v' w', OwnO base w' v' (l ++ [od]) → Below base w w' → wpList Tryz.prog ops Q rest (a.put o.dst v') w') :
    wpList Tryz.prog ops Q (o :: rest) a (w.alloc (.cells #[.int .i64 od.num, .int .i64 od.acc, .int .i64 od.gross, .int .i64 od.tax, .int .i64 od.net] 47)) :=
  wpList_plain hgd fun _ hK => by
    obtain ⟨v', w', hr, h2, h3⟩ := run_append_O w o.type od hown h63 hbase
    unfold Oper.wp execOp
    simp only [ho, resolve, invoke, builtin, Sem.run_bind, Sem.run_pure, Result.andThen_ok, List.map_toArray, List.map_cons, List.map_nil, hs, hxv, hr]
    exact hK _ _ (h v' w' h2 h3)
end Go.Proofs.YtaccaebdmndkiaaGreatDoor
