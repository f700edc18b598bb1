/- Rows of records of integers that a call owns, as rows of numbers; append of one; what stays meanwhile. No conditions. -/
import Derived.Test.YtaccaebdmndkiaaGreatDoorBParse
namespace Go.Proofs.YtaccaebdmndkiaaGreatDoor
open Go.RowKit
set_option linter.unusedVariables false

def rowK (c : Nat) (r : List Int) : List Value := (List.range c).map fun j => Value.int .i64 (r[j]?.getD 0)
theorem rowK_length (c : Nat) (r : List Int) : (rowK c r).length = c := by simp [rowK]
theorem rowK_at {c j : Nat} (r : List Int) (h : j < c) : (rowK c r)[j]? = some (.int .i64 (r[j]?.getD 0)) := by
  rw [rowK, List.getElem?_map, List.getElem?_range h]; rfl
def rowsK (c : Nat) : List (List Int) → List Value
  | [] => []
  | r :: rs => rowK c r ++ rowsK c rs
theorem rowsK_append (c : Nat) (a b : List (List Int)) : rowsK c (a ++ b) = rowsK c a ++ rowsK c b := by
  induction a with
  | nil => rfl
  | cons x r ih => simp [rowsK, ih]
theorem rowsK_at {c : Nat} (rs : List (List Int)) (i j : Nat) (hi : i < rs.length) (hj : j < c) : (rowsK c rs)[i * c + j]? = some (.int .i64 ((rs[i]?.getD [])[j]?.getD 0)) := by
  induction rs generalizing i with
  | nil => simp at hi
  | cons x r ih =>
    cases i with
    | zero =>
      rw [rowsK, Nat.zero_mul, Nat.zero_add, List.getElem?_append_left (by rw [rowK_length]; exact hj), rowK_at x hj]
      rfl
    | succ i =>
      rw [rowsK, List.getElem?_append_right (by rw [rowK_length, Nat.succ_mul]; omega), rowK_length, show (i + 1) * c + j - c = i * c + j by rw [Nat.succ_mul]; omega, ih i (by simpa using hi)]
      simp
/-- Rows of c numbers each, of elements of type T, in a row of the call's own. -/
def OwnK (base T c : Nat) (w : World) (v : Value) (rs : List (List Int)) : Prop := w.ownsRow base T c v rs.length (rowsK c rs)
theorem OwnK.nil (base T c : Nat) (w : World) : OwnK base T c w (.slice none 0 0) [] := World.ownsRow_nil w base T c
theorem OwnK.alloc {base T c : Nat} {w : World} {v : Value} {rs : List (List Int)} (h : OwnK base T c w v rs) (o : Obj) : OwnK base T c (w.alloc o) v rs := World.ownsRow.alloc h o
theorem OwnK.same {base T c : Nat} {w w' : World} {v : Value} {rs : List (List Int)} (h : OwnK base T c w v rs) (hs : ∀ (b : Nat) (cs : Array Value) (f : Nat × Nat), w.heap[b]? = some (Obj.cells cs T f) → w'.heap[b]? = w.heap[b]?) : OwnK base T c w' v rs := by
  refine ⟨h.1, ?_⟩
  rcases h.2 with hn | ⟨g, cap, cur, rfl, hbg, hg, rest⟩
  · exact .inl hn
  · exact .inr ⟨g, cap, cur, rfl, hbg, (hs g _ _ hg).trans hg, rest⟩
theorem OwnK.old {base T c : Nat} {w w' : World} {v : Value} {rs : List (List Int)} (h : OwnK base T c w v rs) (hb : Below w.heap.size w w') : OwnK base T c w' v rs :=
  h.same fun b _ _ hg => hb.block b (Array.getElem?_eq_some_iff.1 hg).1
theorem OwnK.sx {base T c PB : Nat} {w w' : World} {v : Value} {rs : List (List Int)} (h : OwnK base T c w v rs) (hs : Sx PB T w w') : OwnK base T c w' v rs :=
  h.same fun b cs f hg => (hs.2 b _ hg (.inr ⟨cs, f, rfl⟩)).trans hg.symm
theorem OwnK.setB {base T c : Nat} {w : World} {v : Value} {rs : List (List Int)} (h : OwnK base T c w v rs) {b t i : Nat} {cs : Array Value} (hq : Blk w b cs t) (ht : t ≠ T) (x : Value) : OwnK base T c (w.setCell ⟨b, i, none⟩ x) v rs :=
  h.same fun b' cs' f hg => by
    refine Below.heap_setCell _ _ _ _ ?_
    simp only [ne_eq]
    rintro rfl
    unfold Blk at hq
    rw [hg] at hq
    injection hq with h1
    injection h1 with _ h2 _
    exact ht h2.symm
theorem OwnK.base_le {base T c : Nat} {w : World} {v : Value} {rs : List (List Int)} (h : OwnK base T c w v rs) {r : Nat} (hr : v.ownBlock = some r) : base ≤ r := by
  rcases h.2 with ⟨rfl, _⟩ | ⟨g, cap, cur, rfl, hbg, _⟩
  · simp [Value.ownBlock] at hr
  · simp [Value.ownBlock] at hr; omega
theorem OwnK.own {base T c : Nat} {w : World} {v : Value} {rs : List (List Int)} (h : OwnK base T c w v rs) {r : Nat} (hr : v.ownBlock = some r) : ∃ cs f, w.heap[r]? = some (.cells cs T f) := by
  rcases h.2 with ⟨rfl, _⟩ | ⟨g, cap, cur, rfl, hbg, hg, _⟩
  · simp [Value.ownBlock] at hr
  · simp only [Value.ownBlock, Option.some.injEq] at hr; subst hr; exact ⟨_, _, hg⟩
theorem OwnK.form {base T c : Nat} {w : World} {v : Value} {rs : List (List Int)} (h : OwnK base T c w v rs) : ∃ a cap, v = .slice a rs.length cap := by
  rcases h.2 with ⟨rfl, h0⟩ | ⟨g, cap, cur, rfl, _⟩
  · exact ⟨none, 0, by rw [h0]⟩
  · exact ⟨_, _, rfl⟩
theorem OwnK.recs {base T c : Nat} {w : World} {v : Value} {rs : List (List Int)} (h : OwnK base T c w v rs) : Recs c (fun i j => (rs[i]?.getD [])[j]?.getD 0) w.heap.size w v rs.length := by
  rcases h.2 with ⟨rfl, h0⟩ | ⟨g, cap, cur, rfl, hb, hg, hn, hm, hs, ht⟩
  · rw [h0]
    exact Recs.nil none 0 (by simp [maxLen]) (fun _ => rfl)
  · refine Recs.mk_cells hn hm (Array.getElem?_eq_some_iff.1 hg).1 fun i hi j hj => ?_
    have := World.ownsRow.cells h (g := g) rfl (i * c + j) _ (rowsK_at rs i j hi hj)
    rw [Addr.add] at this
    by_cases h0 : i * c + j = 0
    · rw [h0] at this ⊢; simpa using this
    · rw [if_neg h0] at this; simpa using this
/-- append of one. -/
theorem run_append_K (w : World) (ty t T : TypeId) (c : Nat) (z : Value) (hu : Tryz.prog.underlying t = some (.slice T)) (hinfo : (Tryz.prog.info? T).map (fun i => (i.zero, i.size, i.bytes)) = some (some z, c, 8 * c)) (hz : z.cells.size = c) (hc : 0 < c) (hc5 : c ≤ 5)
    {base : Nat} {v : Value} {rs : List (List Int)} (r : List Int) (hown : OwnK base T c w v rs) (h63 : rs.length ≤ 3000000) (hbase : base ≤ w.heap.size) :
    ∃ v' w', (Builtin.append_ #[t, t] ty #[v, .slice (some ⟨w.heap.size, 0, none⟩) 1 1]).run Tryz.prog (w.alloc (.cells (rowK c r).toArray T)) = .ok v' w' ∧
      OwnK base T c w' v' (rs ++ [r]) ∧ (w.alloc (.cells (rowK c r).toArray T)).grownBy w' v.ownBlock := by
  obtain ⟨i0, hi, hz0, hz1, hz2⟩ := info_parts hinfo
  obtain ⟨v', w', h1, h2, h3, _, h5⟩ := run_append_own_at (P := Tryz.prog) (w.alloc (.cells (rowK c r).toArray T)) base t ty T i0 z c (8 * c) hu hi hz0 hz1 hz2 hz hc v rs.length _ (hown.alloc _)
    ⟨w.heap.size, 0, none⟩ 1 1 (rowK c r) (by rw [rowK_length, Nat.one_mul]) (fun j u hj => by
      have hq := Blk.new w (rowK c r).toArray T
      have hc : ((rowK c r).toArray : Array Value)[j]? = some u := by rw [List.getElem?_toArray]; exact hj
      have := hq.at hc
      rw [Addr.add]
      by_cases h0 : j = 0
      · subst h0; simpa using this
      · rw [if_neg h0]; simpa using this)
    (by intro u hu; simp only [rowK, List.mem_map] at hu; obtain ⟨_, _, rfl⟩ := hu; rfl) (by simp only [maxLen]; omega) (by have : (rs.length + 1) * (8 * c) ≤ 3000001 * 40 := Nat.mul_le_mul (by omega) (by omega); omega) (by simp; omega)
  refine ⟨v', w', h1, ?_, h3⟩
  unfold OwnK
  rw [List.length_append, rowsK_append]
  simp only [rowsK, List.append_nil]
  exact h2
theorem wpList_append_K {ops : Array Oper} {rest : List Oper} {o : Oper} {a : Act} {Q : Exit → Act → World → Prop} (hgd : o.guard = none) (s x : Operand) (t T : TypeId) (c : Nat) (z : Value)
    (hu : Tryz.prog.underlying t = some (.slice T)) (hinfo : (Tryz.prog.info? T).map (fun i => (i.zero, i.size, i.bytes)) = some (some z, c, 8 * c)) (hz : z.cells.size = c) (hc : 0 < c) (hc5 : c ≤ 5)
    (ho : o.op = .call { callee := .builtin .append, args := #[s, x], argTypes := #[t, t] }) (w : World) {base : Nat} {v : Value} {rs : List (List Int)} (r : List Int) (cells : Array Value) (hcells : cells = (rowK c r).toArray)
    (hs : a.eval s = v) (hxv : a.eval x = .slice (some ⟨w.heap.size, 0, none⟩) 1 1) (hown : OwnK base T c w v rs) (h63 : rs.length ≤ 3000000) (hbase : base ≤ w.heap.size)
    (h : ∀ v' w', OwnK base T c w' v' (rs ++ [r]) → (w.alloc (.cells cells T)).grownBy w' v.ownBlock → wpList Tryz.prog ops Q rest (a.put o.dst v') w') :
    wpList Tryz.prog ops Q (o :: rest) a (w.alloc (.cells cells T)) :=
  wpList_plain hgd fun _ hK => by
    subst hcells
    obtain ⟨v', w', hr, h2, h3⟩ := run_append_K w o.type t T c z hu hinfo hz hc hc5 r hown h63 hbase
    unfold Oper.wp execOp
    simp only [ho, resolve, invoke, builtin, Sem.run_bind, Sem.run_pure, Result.andThen_ok, List.map_toArray, List.map_cons, List.map_nil, hs, hxv, hr]
    exact hK _ _ (h v' w' h2 h3)
theorem blk_grown {base T c b t : Nat} {A C : World} {cs : Array Value} {v : Value} {rs : List (List Int)} (hq : Blk A b cs t) (hg : A.grownBy C v.ownBlock) (ht : t ≠ T) (ho : OwnK base T c A v rs) : Blk C b cs t := by
  refine (hg.block b hq.lt ?_).trans hq
  intro e
  obtain ⟨cs', f, h⟩ := ho.own e.symm
  unfold Blk at hq
  rw [h] at hq
  injection hq with h1
  injection h1 with _ h2 _
  exact ht h2.symm
theorem Kx.grown {PB T : Nat} {A C : World} {row : Option Nat} (hg : A.grownBy C row) (hT : ∀ r, row = some r → ∃ cs f, A.heap[r]? = some (.cells cs T f)) : Kx PB T A C := by
  refine ⟨hg.size, fun b o _ ho hc => ?_⟩
  refine (hg.block b (Array.getElem?_eq_some_iff.1 ho).1 ?_).trans ho
  intro e
  obtain ⟨cs, f, h⟩ := hT b e.symm
  rw [h] at ho
  cases ho
  exact hc _ _ rfl
theorem Kx.low {PB T b i : Nat} {W A : World} (h : Kx PB T W A) (hb : b < PB) (x : Value) : Kx PB T W (A.setCell ⟨b, i, none⟩ x) :=
  ⟨Nat.le_trans h.1 (by simp [World.setCell]), fun c o hc ho hn => (Below.heap_setCell _ _ _ _ (by simp; omega)).trans (h.2 c o hc ho hn)⟩
theorem Kx.fresh {PB T b i : Nat} {W A : World} (h : Kx PB T W A) (hb : W.heap.size ≤ b) (x : Value) : Kx PB T W (A.setCell ⟨b, i, none⟩ x) :=
  ⟨Nat.le_trans h.1 (by simp [World.setCell]), fun c o hc ho hn => (Below.heap_setCell _ _ _ _ (by have := (Array.getElem?_eq_some_iff.1 ho).1; simp; omega)).trans (h.2 c o hc ho hn)⟩

/-- What the reading of a text has laid: a struct with two numbers and a slice, the other numbers of the first line, the rows. -/
def FSt (base T c tS fb : Nat) (cs : List Nat) (hd : List Int) (rs : List (List Int)) (W : World) : Prop :=
  ∃ ov, Blk W fb #[.int .i64 (hd[0]?.getD 0), .int .i64 (hd[1]?.getD 0), ov] tS ∧ (∀ k, k < cs.length → Blk W (cs[k]?.getD 0) #[.int .i64 (hd[k + 2]?.getD 0)] 3) ∧ OwnK base T c W ov rs
theorem FSt.sx {base T c tS fb PB : Nat} {cs : List Nat} {hd : List Int} {rs : List (List Int)} {A B : World} (h : FSt base T c tS fb cs hd rs A) (hs : Sx PB T A B) (hf : fb < PB) (hcs : ∀ b ∈ cs, b < PB) : FSt base T c tS fb cs hd rs B := by
  obtain ⟨ov, h1, h2, h3⟩ := h
  exact ⟨ov, hs.2 _ _ h1 (.inl hf), fun k hk => hs.2 _ _ (h2 k hk) (.inl (hcs _ (getD_mem hk 0))), h3.sx hs⟩
theorem FSt.old2 {base T c tS fb : Nat} {cs : List Nat} {hd : List Int} {rs : List (List Int)} {A B : World} (h : FSt base T c tS fb cs hd rs A) (hb : Below A.heap.size A B) : FSt base T c tS fb cs hd rs B := by
  obtain ⟨ov, h1, h2, h3⟩ := h
  exact ⟨ov, h1.below hb h1.lt, fun k hk => (h2 k hk).below hb (h2 k hk).lt, h3.old hb⟩
theorem rowsK_last {c : Nat} (rs : List (List Int)) {a b : List Int} (h : (rowK c a).toArray = (rowK c b).toArray) : rowsK c (rs ++ [a]) = rowsK c (rs ++ [b]) := by
  have h' : rowK c a = rowK c b := by simpa using h
  rw [rowsK_append, rowsK_append]; simp only [rowsK, h']
theorem FSt.congr_last {base T c tS fb : Nat} {cs : List Nat} {hd : List Int} {rs : List (List Int)} {a b : List Int} {A : World} (h : FSt base T c tS fb cs hd (rs ++ [a]) A) (he : (rowK c a).toArray = (rowK c b).toArray) : FSt base T c tS fb cs hd (rs ++ [b]) A := by
  obtain ⟨ov, h1, h2, h3⟩ := h
  refine ⟨ov, h1, h2, ?_⟩
  unfold OwnK at h3 ⊢
  rw [rowsK_last rs he] at h3
  simpa using h3
theorem snoc_at (ns : List Int) (n : Int) (i : Nat) (h : i ≠ ns.length) : (ns ++ [n])[i]?.getD 0 = ns[i]?.getD 0 := by
  rcases Nat.lt_or_ge i ns.length with h1 | h1
  · rw [List.getElem?_append_left h1]
  · rw [List.getElem?_eq_none (by simp; omega), List.getElem?_eq_none h1]
theorem snoc_last (ns : List Int) (n : Int) : (ns ++ [n])[ns.length]?.getD 0 = n := by simp
/-- The places of the first line's numbers. -/
def headPs (fb : Nat) (cs : List Nat) : List (Nat × Nat) := (fb, 0) :: (fb, 1) :: cs.map fun b => (b, 0)
theorem headPs_at (fb : Nat) (cs : List Nat) (k : Nat) (h : k < cs.length) : (headPs fb cs)[k + 2]?.getD (0, 0) = (cs[k]?.getD 0, 0) := by
  simp only [headPs, List.getElem?_cons_succ, List.getElem?_map, List.getElem?_eq_getElem h]; rfl
theorem headPlaces {base T c tS fb PB b : Nat} {cs : List Nat} {W0 : World} (hT : tS ≠ T) (hTi : 3 ≠ T) (hf : fb < PB) (hcs : ∀ x ∈ cs, x < PB) (hne : ∀ x ∈ cs, x ≠ fb) (hnd : ∀ i j, i < cs.length → j < cs.length → cs[i]?.getD 0 = cs[j]?.getD 0 → i = j) (hPB : PB ≤ b) :
    Places (fun ns W => FSt base T c tS fb cs ns [] W ∧ Kx PB T W0 W) (headPs fb cs) b := by
  refine ⟨?_, ?_, ?_⟩
  · intro p hp
    simp only [headPs, List.mem_cons, List.mem_map] at hp
    rcases hp with rfl | rfl | ⟨x, hx, rfl⟩
    · dsimp only; omega
    · dsimp only; omega
    · have := hcs x hx; dsimp only; omega
  · rintro ns W ⟨⟨ov, h1, h2, h3⟩, _⟩ hl
    have hl' : ns.length < cs.length + 2 := by simpa [headPs] using hl
    by_cases h0 : ns.length = 0
    · rw [h0]; exact ⟨⟨_, h1.at rfl⟩, h1.free 0⟩
    by_cases h1' : ns.length = 1
    · rw [h1']; exact ⟨⟨_, h1.at rfl⟩, h1.free 1⟩
    obtain ⟨k, hk⟩ : ∃ k, ns.length = k + 2 := ⟨ns.length - 2, by omega⟩
    rw [hk, headPs_at fb cs k (by omega)]
    have h4 := h2 k (by omega)
    exact ⟨⟨_, h4.at rfl⟩, h4.free 0⟩
  · rintro ns n W ⟨⟨ov, h1, h2, h3⟩, hk⟩ hl
    have hl' : ns.length < cs.length + 2 := by simpa [headPs] using hl
    by_cases h0 : ns.length = 0
    · have hnil : ns = [] := List.eq_nil_of_length_eq_zero h0
      subst hnil
      refine ⟨⟨ov, h1.set (i := 0) _, fun k hk => ?_, h3.setB h1 hT _⟩, hk.low hf _⟩
      exact (h2 k hk).other (hne _ (getD_mem hk 0)) _
    by_cases h1' : ns.length = 1
    · obtain ⟨a, rfl⟩ : ∃ a, ns = [a] := by
        match ns, h1' with
        | [a], _ => exact ⟨a, rfl⟩
      refine ⟨⟨ov, h1.set (i := 1) _, fun k hk => ?_, h3.setB h1 hT _⟩, hk.low hf _⟩
      exact (h2 k hk).other (hne _ (getD_mem hk 0)) _
    obtain ⟨j, hj⟩ : ∃ j, ns.length = j + 2 := ⟨ns.length - 2, by omega⟩
    have hjc : j < cs.length := by omega
    have hbj := hcs _ (getD_mem hjc 0)
    rw [hj, headPs_at fb cs j hjc]
    have q := h2 j hjc
    refine ⟨⟨ov, ?_, fun k hk => ?_, h3.setB q hTi _⟩, hk.low hbj _⟩
    · have := h1.other (i := 0) (fun e => hne _ (getD_mem hjc 0) e.symm) (.int .i64 n)
      rw [snoc_at ns n 0 (by omega), snoc_at ns n 1 (by omega)]
      exact this
    · by_cases he : k = j
      · subst he
        have := q.set (i := 0) (.int .i64 n)
        rw [← hj, snoc_last]
        exact this
      · rw [snoc_at ns n (k + 2) (by omega)]
        exact (h2 k hk).other (fun e => he (hnd k j hk hjc e)) _
/-- The places of another line's numbers. -/
def itemPs (ob c : Nat) : List (Nat × Nat) := (List.range c).map fun j => (ob, j)
theorem itemPs_at (ob c k : Nat) (h : k < c) : (itemPs ob c)[k]?.getD (0, 0) = (ob, k) := by
  rw [itemPs, List.getElem?_map, List.getElem?_range h]; rfl
theorem rowK_set (c : Nat) (ns : List Int) (n : Int) (h : ns.length < c) : (rowK c ns).toArray.setIfInBounds ns.length (.int .i64 n) = (rowK c (ns ++ [n])).toArray := by
  apply Array.ext_getElem?
  intro j
  rw [List.setIfInBounds_toArray, List.getElem?_toArray, List.getElem?_toArray, List.getElem?_set]
  by_cases hj : ns.length = j
  · subst hj
    rw [if_pos rfl, if_pos (by rw [rowK_length]; exact h), rowK_at _ h, snoc_last]
  · rw [if_neg hj]
    by_cases hjc : j < c
    · rw [rowK_at _ hjc, rowK_at _ hjc, snoc_at ns n j (fun e => hj e.symm)]
    · rw [List.getElem?_eq_none (by rw [rowK_length]; omega), List.getElem?_eq_none (by rw [rowK_length]; omega)]
theorem itemPlaces {T c ob b : Nat} {W0 : World} (hb : ob < b) (hW : W0.heap.size ≤ ob) : Places (fun ns W => Blk W ob (rowK c ns).toArray T ∧ Below W0.heap.size W0 W) (itemPs ob c) b := by
  refine ⟨?_, ?_, ?_⟩
  · intro p hp
    simp only [itemPs, List.mem_map] at hp
    obtain ⟨j, _, rfl⟩ := hp
    exact hb
  · rintro ns W ⟨h1, _⟩ hl
    have hl' : ns.length < c := by simpa [itemPs] using hl
    rw [itemPs_at ob c _ hl']
    exact ⟨⟨_, h1.at (i := ns.length) (x := .int .i64 (ns[ns.length]?.getD 0)) (by rw [List.getElem?_toArray]; exact rowK_at ns hl')⟩, h1.free _⟩
  · rintro ns n W ⟨h1, h2⟩ hl
    have hl' : ns.length < c := by simpa [itemPs] using hl
    rw [itemPs_at ob c _ hl']
    refine ⟨?_, h2.setCell (p := ⟨ob, ns.length, none⟩) hW _⟩
    rw [← rowK_set c ns n hl']
    exact h1.set _
theorem Blk.set3 {w : World} {b t : Nat} {x0 x1 x2 : Value} (h : Blk w b #[x0, x1, x2] t) (y0 y1 y2 : Value) : Blk (((w.setCell ⟨b, 0, none⟩ y0).setCell ⟨b, 1, none⟩ y1).setCell ⟨b, 2, none⟩ y2) b #[y0, y1, y2] t :=
  ((h.set (i := 0) y0).set (i := 1) y1).set (i := 2) y2
theorem below_set3 {w : World} {b B : Nat} (hb : B ≤ b) (y0 y1 y2 : Value) : Below B w (((w.setCell ⟨b, 0, none⟩ y0).setCell ⟨b, 1, none⟩ y1).setCell ⟨b, 2, none⟩ y2) :=
  (((Below.refl B w).setCell (p := ⟨b, 0, none⟩) hb _).setCell (p := ⟨b, 1, none⟩) hb _).setCell (p := ⟨b, 2, none⟩) hb _
theorem OwnK.set3 {base T c : Nat} {w : World} {v : Value} {rs : List (List Int)} (h : OwnK base T c w v rs) {b t : Nat} {x0 x1 x2 : Value} (hq : Blk w b #[x0, x1, x2] t) (ht : t ≠ T) (y0 y1 y2 : Value) : OwnK base T c (((w.setCell ⟨b, 0, none⟩ y0).setCell ⟨b, 1, none⟩ y1).setCell ⟨b, 2, none⟩ y2) v rs :=
  ((h.setB hq ht y0).setB (hq.set (i := 0) y0) ht y1).setB ((hq.set (i := 0) y0).set (i := 1) y1) ht y2
theorem ords_of_rows {K : Nat} {w : World} {v : Value} {rs : List (List Int)} (h : Recs 5 (fun i j => (rs[i]?.getD [])[j]?.getD 0) K w v rs.length) : Ords K w v (rs.map odOf) := by
  unfold Ords
  rw [List.length_map]
  refine h.congr fun i hi j hj => ?_
  rw [List.getElem?_map, List.getElem?_eq_getElem hi]
  match j, hj with
  | 0, _ => rfl
  | 1, _ => rfl
  | 2, _ => rfl
  | 3, _ => rfl
  | 4, _ => rfl
theorem rets_of_rows {K : Nat} {w : World} {v : Value} {rs : List (List Int)} (h : Recs 2 (fun i j => (rs[i]?.getD [])[j]?.getD 0) K w v rs.length) : Rets K w v (rs.map rtOf) := by
  unfold Rets
  rw [List.length_map]
  refine h.congr fun i hi j hj => ?_
  rw [List.getElem?_map, List.getElem?_eq_getElem hi]
  match j, hj with
  | 0, _ => rfl
  | 1, _ => rfl
end Go.Proofs.YtaccaebdmndkiaaGreatDoor
