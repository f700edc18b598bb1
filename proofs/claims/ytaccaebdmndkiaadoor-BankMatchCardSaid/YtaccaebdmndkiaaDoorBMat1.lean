/- Orders by their numbers: what the map of BankMatch holds, and what Match gives by it. No conditions. -/
import Derived.Test.YtaccaebdmndkiaaDoorBMatch
import Derived.Maps.OwnOps
import Derived.Maps.Views
import Derived.Lib.Hide
namespace Go.Proofs.YtaccaebdmndkiaaDoor
open Go Go.RowKit Go.Maps
set_option linter.unusedVariables false

def oDat (o : Od) : DataW Unit := .agg [.lit (.int .i64 o.num), .lit (.int .i64 o.acc), .lit (.int .i64 o.gross), .lit (.int .i64 o.tax), .lit (.int .i64 o.net)]
theorem oDat_inj {a b : Od} (h : oDat a = oDat b) : a = b := by
  obtain ⟨a0, a1, a2, a3, a4⟩ := a
  obtain ⟨b0, b1, b2, b3, b4⟩ := b
  simp only [oDat, DataW.agg.injEq, List.cons.injEq, DataW.lit.injEq, Lit.int.injEq, true_and, and_true] at h
  obtain ⟨rfl, rfl, rfl, rfl, rfl⟩ := h
  rfl
/-- How an order's value reads. -/
def oR (v : Value) : Option (DataW Unit × List MemPlace) := match v with
  | .agg a => match a.toList with
    | [.int .i64 n, .int .i64 c, .int .i64 g, .int .i64 t, .int .i64 m] => some (oDat ⟨n, c, g, t, m⟩, [])
    | _ => none
  | _ => none
theorem oR_mk (o : Od) : oR (.agg #[.int .i64 o.num, .int .i64 o.acc, .int .i64 o.gross, .int .i64 o.tax, .int .i64 o.net]) = some (oDat o, []) := rfl
theorem oR_inv {v : Value} {z : DataW Unit × List MemPlace} (h : oR v = some z) : ∃ o : Od, v = .agg #[.int .i64 o.num, .int .i64 o.acc, .int .i64 o.gross, .int .i64 o.tax, .int .i64 o.net] ∧ z = (oDat o, []) := by
  unfold oR at h
  split at h
  · rename_i a
    split at h
    · rename_i n c g t m ha
      refine ⟨⟨n, c, g, t, m⟩, ?_, (Option.some.inj h).symm⟩
      congr 1
      exact Array.ext' ha
    · cases h
  · cases h
/-- The map of a list of orders. -/
def mapL (l : List Od) : DataW Unit := l.foldl (fun D o => D.put (.int .i64 o.num) (oDat o)) (.map [])
theorem mapL_snoc (l : List Od) (o : Od) : mapL (l ++ [o]) = (mapL l).put (.int .i64 o.num) (oDat o) := by simp [mapL]
/-- The last order with a number. -/
def lastOf (l : List Od) (n : Int) : Option Od := (l.reverse.filter fun o => decide (o.num = n)).head?
theorem mapL_rev (r : List Od) : IsMap (mapL r.reverse) ∧ ∀ n zd, (mapL r.reverse).atKey (.int .i64 n) zd = ((r.filter fun o => decide (o.num = n)).head?.map oDat).getD zd := by
  induction r with
  | nil => exact ⟨isMap_empty, fun n zd => rfl⟩
  | cons x r ih =>
    rw [List.reverse_cons, mapL_snoc]
    refine ⟨ih.1.put _ _, fun n zd => ?_⟩
    by_cases h : x.num = n
    · subst h
      rw [atKey_put_same ih.1 (by trivial)]
      simp
    · rw [atKey_put_other (by simpa using fun h' => h h'.symm), ih.2]
      simp [h]
theorem mapL_at (l : List Od) (n : Int) (zd : DataW Unit) : (mapL l).atKey (.int .i64 n) zd = ((lastOf l n).map oDat).getD zd := by
  have := (mapL_rev l.reverse).2 n zd
  rw [List.reverse_reverse] at this
  exact this
theorem lastOf_pick (l : List Od) (r : Rt) : lastOf l r.ord = (pick l r).getLast? := by
  rw [lastOf, List.filter_reverse, List.head?_reverse]; rfl

/-- The look-up with ok, at the operation. -/
theorem wpList_lookup_O {ops : Array Oper} {rest : List Oper} {o : Oper} {a : Act} {Q : Exit → Act → World → Prop} (hgd : o.guard = none) (w : World) (m x : Operand) (hop : o.op = Op.lookup 43 m x true) (b n : Nat) (l : List Od)
    (hm : a.eval m = .map (some b)) (hown : w.ownsMap Tryd.prog 3 oR b n (mapL l)) (z : Int) (hx : a.eval x = .int .i64 z) (hz : (Lit.int .i64 z).wf = true)
    (hK : ∀ (od : Od) (ok : Bool), RowKit.Hid (ok = (lastOf l z).isSome ∧ od = (lastOf l z).getD Od.z) → wpList Tryd.prog ops Q rest (a.put o.dst (.tuple #[.agg #[.int .i64 od.num, .int .i64 od.acc, .int .i64 od.gross, .int .i64 od.tax, .int .i64 od.net], .bool ok])) w) :
    wpList Tryd.prog ops Q (o :: rest) a w := by
  refine wpList_plain hgd fun K' hK' => ?_
  obtain ⟨es, clock, hb, F, _, hD⟩ := hown
  have hkey := keyOf_int_mk Tryd.underlying3 hz
  have hzero : (zeroValue 45).run Tryd.prog w = .ok (.agg #[.int .i64 0, .int .i64 0, .int .i64 0, .int .i64 0, .int .i64 0]) w := by kernel_rfl
  have hrun : ∃ v ok, (Instr.lookup 43 (.map (some b)) (.int .i64 z) true).run Tryd.prog w = .ok (.tuple #[v, .bool ok]) w ∧ ok = (lastOf l z).isSome ∧ oR v = some (oDat ((lastOf l z).getD Od.z), []) := by
    rcases Maps.fit_look true (int_keyed Tryd.underlying3) Tryd.underlying43 hzero hb F hkey with ⟨hrun, _, hat⟩ | ⟨e0, y, _, _, hrun, hRv, hat, _⟩
    · refine ⟨_, false, hrun, ?_, ?_⟩
      · have h1 := hat (.nil)
        rw [← hD, mapL_at] at h1
        cases hl : lastOf l z with
        | none => rfl
        | some o => rw [hl] at h1; simp [oDat] at h1
      · have h1 := hat (.nil)
        rw [← hD, mapL_at] at h1
        cases hl : lastOf l z with
        | none => rfl
        | some o => rw [hl] at h1; simp [oDat] at h1
    · obtain ⟨o', ho', hy⟩ := oR_inv hRv
      have h1 := hat (.nil)
      rw [← hD, mapL_at, hy] at h1
      refine ⟨_, true, hrun, ?_, ?_⟩
      · cases hl : lastOf l z with
        | none => rw [hl] at h1; simp [oDat] at h1
        | some o => rfl
      · cases hl : lastOf l z with
        | none => rw [hl] at h1; simp [oDat] at h1
        | some o =>
          rw [hl] at h1
          simp only [Option.map_some, Option.getD_some] at h1
          rw [hRv, hy, ← h1]; rfl
  obtain ⟨v, ok, hrun, hok, hv⟩ := hrun
  obtain ⟨o', rfl, ho'⟩ := oR_inv hv
  have hod : o' = (lastOf l z).getD Od.z := oDat_inj (by simpa using (congrArg Prod.fst ho').symm)
  unfold Oper.wp
  simp [execOp, hop, hm, hx, hrun, Result.andThen]
  exact hK' _ _ (hK o' ok (Lib.hid ⟨hok, hod⟩))

/-- The store, at the operation. -/
theorem wp_update_O {o : Oper} {a : Act} {C : Act → World → Prop} {Q : Exit → Act → World → Prop} (m x v : Operand) (ho : o.op = .mapUpdate 43 m x v) (w : World) {B k : Nat} {l : List Od} (od : Od)
    (hm : a.eval m = .map (some B)) (hx : a.eval x = .int .i64 od.num) (hv : a.eval v = odV od) (hwf : (Lit.int .i64 od.num).wf = true) (hown : w.ownsMap Tryd.prog 3 oR B k (mapL l)) (hk : k < maxLen)
    (h : ∀ w', w'.ownsMap Tryd.prog 3 oR B (k + 1) (mapL (l ++ [od])) → w.grownBy w' (some B) → C (a.put o.dst undef) w') : o.wp Tryd.prog a w C Q := by
  obtain ⟨w', hrun, h2, h3⟩ := hown.update (int_keyed Tryd.underlying3) Tryd.underlying43 hk (keyOf_int_mk Tryd.underlying3 hwf) (oR_mk od)
  unfold Oper.wp
  simp [execOp, ho, hm, hx, hv, hrun, Result.andThen]
  exact h w' (by rw [mapL_snoc]; exact h2) h3

/-- How Match and the map agree. -/
theorem picks_all {last : Int} {l : List Od} (h : okTo last l = true) {rs : List Rt} (hl : (picks l rs).length = rs.length) {i : Nat} (hi : i < rs.length) : lastOf l (rs[i]?.getD Rt.z).ord = (picks l rs)[i]? ∧ (picks l rs)[i]?.isSome := by
  induction rs generalizing i with
  | nil => simp at hi
  | cons r rs ih =>
    have h1 := pick_le h r
    have h2 := picks_le h rs
    simp only [picks, List.length_append, List.length_cons] at hl
    have h3 : (pick l r).length = 1 := by omega
    obtain ⟨o, ho⟩ := List.length_eq_one_iff.1 h3
    simp only [picks, ho, List.singleton_append]
    cases i with
    | zero =>
      simp only [List.getElem?_cons_zero, Option.getD_some, lastOf_pick, ho]
      exact ⟨rfl, rfl⟩
    | succ i =>
      simp only [List.getElem?_cons_succ]
      exact ih (by omega) (by simpa using hi)
theorem picks_short {last : Int} {l : List Od} (h : okTo last l = true) {rs : List Rt} (hl : (picks l rs).length ≠ rs.length) : ∃ i, i < rs.length ∧ lastOf l (rs[i]?.getD Rt.z).ord = none := by
  induction rs with
  | nil => simp [picks] at hl
  | cons r rs ih =>
    have h1 := pick_le h r
    by_cases h0 : pick l r = []
    · exact ⟨0, by simp, by simp [lastOf_pick, h0]⟩
    · have h3 : (pick l r).length ≠ 0 := fun h => h0 (List.eq_nil_of_length_eq_zero h)
      simp only [picks, List.length_append, List.length_cons] at hl
      obtain ⟨i, hi, he⟩ := ih (by omega)
      exact ⟨i + 1, by simpa using hi, by simpa using he⟩
/-- Whether one of the returns has no order. -/
def missS (l : List Od) : List Rt → Bool
  | [] => false
  | r :: rs => (lastOf l r.ord).isNone || missS l rs
theorem missS_append (l : List Od) (a b : List Rt) : missS l (a ++ b) = (missS l a || missS l b) := by
  induction a with
  | nil => rfl
  | cons x r ih => simp [missS, ih, Bool.or_assoc]
theorem missS_take (l : List Od) (rs : List Rt) (k : Nat) (h : k < rs.length) : missS l (rs.take (k + 1)) = (missS l (rs.take k) || !(lastOf l (rs[k]?.getD Rt.z).ord).isSome) := by
  rw [List.take_add_one, List.getElem?_eq_getElem h, missS_append]; simp [missS]
theorem missS_at {l : List Od} {rs : List Rt} {i : Nat} (hi : i < rs.length) (h : lastOf l (rs[i]?.getD Rt.z).ord = none) : missS l rs = true := by
  induction rs generalizing i with
  | nil => simp at hi
  | cons r rs ih =>
    cases i with
    | zero => simp at h; simp [missS, h]
    | succ i =>
      rw [missS, ih (i := i) (by simpa using hi) (by simpa using h), Bool.or_true]
theorem missS_none {l : List Od} {rs : List Rt} (h : ∀ i, i < rs.length → (lastOf l (rs[i]?.getD Rt.z).ord).isSome = true) : missS l rs = false := by
  induction rs with
  | nil => rfl
  | cons r rs ih =>
    have h0 := h 0 (by simp)
    have h1 := ih fun i hi => by simpa using h (i + 1) (by simpa using hi)
    rw [missS, h1, Bool.or_false]
    simp at h0
    cases hl : lastOf l r.ord with
    | none => rw [hl] at h0; cases h0
    | some o => rfl
end Go.Proofs.YtaccaebdmndkiaaDoor
