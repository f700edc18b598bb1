/- Rows of values of several cells each that a call owns; append of some. No conditions. -/
import Derived.Test.YthooiobhlbnaoaaGreatOClM
import Derived.Deep.Upon
namespace Go.Proofs.YthooiobhlbnaoaaGreat
open Go.RowKit
set_option linter.unusedVariables false

theorem addr_add (b o q : Nat) : (Addr.add ⟨b, o, none⟩ q) = ⟨b, o + q, none⟩ := by
  rw [Addr.add]
  by_cases h0 : q = 0
  · subst h0; simp
  · simp [h0]
/-- The rows are of c cells each. -/
def RowsOk (c : Nat) (rs : List (List Value)) : Prop := ∀ r ∈ rs, r.length = c ∧ ∀ u ∈ r, u.oneCell' = true
theorem RowsOk.append {c : Nat} {rs ms : List (List Value)} (h : RowsOk c rs) (h' : RowsOk c ms) : RowsOk c (rs ++ ms) := fun r hr => by
  rcases List.mem_append.1 hr with hr | hr
  · exact h r hr
  · exact h' r hr
theorem RowsOk.nil (c : Nat) : RowsOk c [] := fun r hr => by simp at hr
theorem RowsOk.one {c : Nat} {r : List Value} (h : r.length = c) (h1 : ∀ u ∈ r, u.oneCell' = true) : RowsOk c [r] := fun r' hr => by
  rw [List.mem_singleton.1 hr]; exact ⟨h, h1⟩
theorem flat_length {c : Nat} {rs : List (List Value)} (h : RowsOk c rs) : rs.flatten.length = rs.length * c := by
  induction rs with
  | nil => simp
  | cons r t ih =>
    rw [List.flatten_cons, List.length_append, ih fun x hx => h x (List.mem_cons_of_mem _ hx), (h r (by simp)).1, List.length_cons, Nat.succ_mul]
    omega
theorem flat_at {c : Nat} {rs : List (List Value)} (h : RowsOk c rs) {i j : Nat} {r : List Value} (hi : rs[i]? = some r) (hj : j < c) : rs.flatten[i * c + j]? = r[j]? := by
  induction rs generalizing i with
  | nil => simp at hi
  | cons x t ih =>
    have hx := (h x (by simp)).1
    cases i with
    | zero =>
      simp only [List.getElem?_cons_zero, Option.some.injEq] at hi
      subst hi
      rw [List.flatten_cons, Nat.zero_mul, Nat.zero_add, List.getElem?_append_left (by omega)]
    | succ i =>
      rw [List.flatten_cons, List.getElem?_append_right (by rw [hx, Nat.succ_mul]; omega), hx, show (i + 1) * c + j - c = i * c + j by rw [Nat.succ_mul]; omega]
      exact ih (fun r hr => h r (List.mem_cons_of_mem _ hr)) (by simpa using hi)
theorem flat_split {c k i : Nat} {rs : List (List Value)} {u : Value} (h : RowsOk c rs) (hc : 0 < c) (hk : rs.flatten[k]? = some u) : ∃ i j r, k = i * c + j ∧ j < c ∧ rs[i]? = some r ∧ r[j]? = some u := by
  have hkl := (List.getElem?_eq_some_iff.1 hk).1
  rw [flat_length h] at hkl
  have h1 : k / c < rs.length := Nat.div_lt_of_lt_mul (by rw [Nat.mul_comm]; exact hkl)
  have h2 : k = k / c * c + k % c := by rw [Nat.mul_comm]; exact (Nat.div_add_mod k c).symm
  refine ⟨k / c, k % c, _, h2, Nat.mod_lt _ hc, List.getElem?_eq_getElem h1, ?_⟩
  rw [← flat_at h (List.getElem?_eq_getElem h1) (Nat.mod_lt _ hc), ← h2]
  exact hk

/-- A row of several that a call owns. -/
def OwnR (c T base : Nat) (w : World) (v : Value) (rs : List (List Value)) : Prop := w.ownsRow base T c v rs.length rs.flatten ∧ RowsOk c rs
theorem OwnR.nil (c T base : Nat) (w : World) : OwnR c T base w (.slice none 0 0) [] := ⟨World.ownsRow_nil w base T c, RowsOk.nil c⟩
section
variable {c T base : Nat} {w w' : World} {v : Value} {rs : List (List Value)}
theorem OwnR.old {B : Nat} (h : OwnR c T base w v rs) (hb : Below B w w') (hB : w.heap.size ≤ B) : OwnR c T base w' v rs := ⟨ownsRow_old h.1 hb hB, h.2⟩
theorem OwnR.kept {row : Option Nat} (h : OwnR c T base w v rs) (hg : w.grownBy w' row) (hne : v.ownBlock = none ∨ v.ownBlock ≠ row) : OwnR c T base w' v rs := ⟨World.ownsRow.kept h.1 hg hne, h.2⟩
theorem OwnR.mono {base' : Nat} (h : OwnR c T base w v rs) (hb : base' ≤ base) : OwnR c T base' w v rs := ⟨ownsRow_mono h.1 hb, h.2⟩
theorem OwnR.form (h : OwnR c T base w v rs) : ∃ a n, v = .slice a rs.length n ∧ rs.length ≤ n ∧ n ≤ maxLen := ownsRow_form h.1
theorem OwnR.low (h : OwnR c T base w v rs) {r : Nat} (hr : v.ownBlock = some r) : base ≤ r := (ownsRow_cells h.1 hr).1
theorem OwnR.lt (h : OwnR c T base w v rs) {r : Nat} (hr : v.ownBlock = some r) : r < w.heap.size := ownsRow_lt h.1 hr
theorem OwnR.rows (h : OwnR c T base w v rs) : RowsV c (fun i j => ((rs[i]?.getD [])[j]?).getD undef) w.heap.size w v rs.length := by
  rcases h.1.2 with ⟨rfl, h0⟩ | ⟨g, cap, cur, rfl, hb, hg, hn, hm, hs, ht⟩
  · have hr : rs = [] := List.eq_nil_of_length_eq_zero h0
    subst hr
    exact RowsV.nil none 0 (Nat.zero_le _) (fun _ => rfl)
  · refine RowsV.mk_cells hn hm (Array.getElem?_eq_some_iff.1 hg).1 fun i hi j hj => ?_
    have h1 := flat_at h.2 (List.getElem?_eq_getElem hi) hj
    have hl : (rs[i]).length = c := (h.2 _ (List.getElem_mem hi)).1
    rw [List.getElem?_eq_getElem (show j < (rs[i]).length by omega)] at h1
    have := World.ownsRow.cells h.1 (g := g) rfl (i * c + j) _ h1
    rw [List.getElem?_eq_getElem hi, Option.getD_some, List.getElem?_eq_getElem (show j < (rs[i]).length by omega), Option.getD_some]
    rw [Addr.add] at this
    by_cases h0 : i * c + j = 0
    · rw [h0] at this ⊢; simpa using this
    · rw [if_neg h0] at this; simpa using this
/-- A row that a literal lays. -/
theorem OwnR.lit {W : World} {b : Nat} {cs : Array Value} (hq : Blk W b cs T) (hb : base ≤ b) (hok : RowsOk c rs) (hcs : cs.toList = rs.flatten) (hm : rs.length ≤ maxLen) : OwnR c T base W (.slice (some ⟨b, 0, none⟩) rs.length rs.length) rs := by
  have hsz : cs.size = rs.length * c := by rw [← Array.length_toList, hcs, flat_length hok]
  refine ⟨⟨flat_length hok, .inr ⟨b, rs.length, cs, rfl, hb, hq, Nat.le_refl _, hm, hsz, ?_⟩⟩, hok⟩
  rw [← hcs, List.take_of_length_le (by rw [Array.length_toList, hsz]; exact Nat.le_refl _)]
theorem Blk.ty_ne {W : World} {b t t' : Nat} {cs cs' : Array Value} (h : Blk W b cs t) (h' : Blk W b cs' t') : t = t' := by
  unfold Blk at h h'
  rw [h] at h'
  simp only [Option.some.injEq, Obj.cells.injEq] at h'
  exact h'.2.1
theorem OwnR.blk {g : Nat} (h : OwnR c T base w v rs) (hg : v.ownBlock = some g) : ∃ cur, Blk w g cur T := by
  rcases h.1.2 with ⟨rfl, _⟩ | ⟨g', cap', cur, rfl, _, hb, _⟩
  · cases hg
  · obtain rfl : g' = g := by simpa [Value.ownBlock] using hg
    exact ⟨cur, hb⟩
theorem rows_apart {c' T' base' : Nat} {rs' : List (List Value)} {v' : Value} {g : Nat} (h : OwnR c T base w v rs) (h' : OwnR c' T' base' w v' rs') (hT : T ≠ T') (hg : v.ownBlock = some g) : v'.ownBlock ≠ some g := fun e => by
  obtain ⟨_, h1⟩ := h.blk hg
  obtain ⟨_, h2⟩ := h'.blk e
  exact hT (h1.ty_ne h2)
theorem wp_append_rows {o : Oper} {a : Act} {K : Act → World → Prop} {Q : Exit → Act → World → Prop} (s x : Operand) (t : TypeId)
    (ho : o.op = .call { callee := .builtin .append, args := #[s, x], argTypes := #[t, t] }) (ht : Tryz.prog.underlying t = some (.slice T)) {zero : Value} {bytes : Nat}
    (hi : (Tryz.prog.info? T).map (fun i => (i.zero, i.size, i.bytes)) = some (some zero, c, bytes)) (hzs : zero.cells.size = c) (hc : 0 < c)
    (hs : a.eval s = v) (hown : OwnR c T base w v rs) {b off m cap : Nat} {ms : List (List Value)} (hx : a.eval x = .slice (some ⟨b, off, none⟩) m cap) (hms : ms.length = m) (hok : RowsOk c ms)
    (hcell : ∀ i r j u, ms[i]? = some r → r[j]? = some u → w.cell? ⟨b, off + (i * c + j), none⟩ = some u) (hm : 0 < m) (h63 : rs.length + m ≤ maxLen) (hby : (rs.length + m) * bytes ≤ 140737488355328) (hbase : base ≤ w.heap.size)
    (h : ∀ g cap w', OwnR c T base w' (.slice (some ⟨g, 0, none⟩) (rs.length + m) cap) (rs ++ ms) → w.grownBy w' v.ownBlock → (v.ownBlock = some g ∨ g = w.heap.size) → K (a.put o.dst (.slice (some ⟨g, 0, none⟩) (rs.length + m) cap)) w') : o.wp Tryz.prog a w K Q := by
  obtain ⟨i0, hi, hz0, hz1, hz2⟩ := info_parts hi
  refine wp_append_lies w s x t ho base T i0 zero c bytes ht hi hz0 hz1 hz2 hzs hc v rs.length rs.flatten hs hown.1 ⟨b, off, none⟩ m cap ms.flatten hx (by rw [flat_length hok, hms])
    (fun k u hk => by
      obtain ⟨i, j, r, rfl, hj, hr, hu⟩ := flat_split (i := 0) hok hc hk
      have := hcell i r j u hr hu
      rw [addr_add]; exact this)
    (fun u hu => by obtain ⟨r, hr, hur⟩ := List.mem_flatten.1 hu; exact (hok r hr).2 u hur) hm h63 hby hbase _ rfl fun g cap w' h1 h2 h3 h4 => h g cap w' ⟨?_, hown.2.append hok⟩ h2 h3
  rw [List.length_append, List.flatten_append, hms]
  exact h1
theorem wpList_append_rows {ops : Array Oper} {rest : List Oper} {o : Oper} {a : Act} {Q : Exit → Act → World → Prop} (hgd : o.guard = none) (s x : Operand) (t : TypeId)
    (ho : o.op = .call { callee := .builtin .append, args := #[s, x], argTypes := #[t, t] }) (ht : Tryz.prog.underlying t = some (.slice T)) {zero : Value} {bytes : Nat}
    (hi : (Tryz.prog.info? T).map (fun i => (i.zero, i.size, i.bytes)) = some (some zero, c, bytes)) (hzs : zero.cells.size = c) (hc : 0 < c)
    (hs : a.eval s = v) (hown : OwnR c T base w v rs) {b off m cap : Nat} {ms : List (List Value)} (hx : a.eval x = .slice (some ⟨b, off, none⟩) m cap) (hms : ms.length = m) (hok : RowsOk c ms)
    (hcell : ∀ i r j u, ms[i]? = some r → r[j]? = some u → w.cell? ⟨b, off + (i * c + j), none⟩ = some u) (hm : 0 < m) (h63 : rs.length + m ≤ maxLen) (hby : (rs.length + m) * bytes ≤ 140737488355328) (hbase : base ≤ w.heap.size)
    (h : ∀ g cap w', OwnR c T base w' (.slice (some ⟨g, 0, none⟩) (rs.length + m) cap) (rs ++ ms) → w.grownBy w' v.ownBlock → (v.ownBlock = some g ∨ g = w.heap.size) → wpList Tryz.prog ops Q rest (a.put o.dst (.slice (some ⟨g, 0, none⟩) (rs.length + m) cap)) w') : wpList Tryz.prog ops Q (o :: rest) a w :=
  wpList_plain hgd fun _ hK => wp_append_rows s x t ho ht hi hzs hc hs hown hx hms hok hcell hm h63 hby hbase fun g cap w' h1 h2 h3 => hK _ _ (h g cap w' h1 h2 h3)
end
end Go.Proofs.YthooiobhlbnaoaaGreat
