/- Maps that a call owns, as functions of their keys. No conditions. -/
import Derived.Test.YthooiobhlbnaoaaGreatOMem
import Derived.Maps.OwnIn
import Derived.Maps.RangeWalk
import Derived.Maps.Ext
namespace Go.Proofs.YthooiobhlbnaoaaGreat
open Go.RowKit
open Go.Maps (Keyed)
set_option linter.unusedVariables false

/-- An element reads as itself. -/
def tok (v : Value) : Option (DataW Value × List MemPlace) := some (.held v, [])

/-- Block b of w is a map of m entries that gives f. -/
def MapIs (w : World) (k : TypeId) (b m : Nat) (f : Lit → Option Value) : Prop :=
  ∃ D : DataW Value, w.ownsMap Tryz.prog k tok b m D ∧ Maps.size D = m ∧ (∀ kl, Maps.has D kl = (f kl).isSome) ∧ ∀ kl z, D.atKey kl (.held z) = .held ((f kl).getD z)

theorem ownsMap_tight {P : Program} {k : TypeId} {R : Value → Option (DataW Value × List MemPlace)} {w : World} {b n : Nat} {D : DataW Value} (h : w.ownsMap P k R b n D) : w.ownsMap P k R b (Maps.size D) D := by
  obtain ⟨es, clock, hb, F, hs, rfl⟩ := h
  exact ⟨es, clock, hb, F, by simp [Maps.size, length_sorted], rfl⟩

def upd (f : Lit → Option Value) (kl : Lit) (v : Value) : Lit → Option Value := fun x => if x.sameKey kl then some v else f x

section
variable {w w' : World} {k : TypeId} {b m B : Nat} {f : Lit → Option Value}
theorem MapIs.made (w : World) (k : TypeId) : MapIs (w.alloc (.map #[] 0)) k w.heap.size 0 (fun _ => none) :=
  ⟨.map [], World.ownsMap_made w Tryz.prog k tok, rfl, fun kl => rfl, fun kl z => rfl⟩
theorem MapIs.lt (h : MapIs w k b m f) : b < w.heap.size := by obtain ⟨D, h1, _⟩ := h; exact h1.lt
theorem MapIs.kept {row : Option Nat} (h : MapIs w k b m f) (hg : w.grownBy w' row) (hne : some b ≠ row) : MapIs w' k b m f := by
  obtain ⟨D, h1, h2⟩ := h; exact ⟨D, h1.kept hg hne, h2⟩
theorem MapIs.below (h : MapIs w k b m f) (hb : Below B w w') (hlt : b < B) : MapIs w' k b m f := by
  obtain ⟨D, ⟨es, clock, hh, rest⟩, h2⟩ := h; exact ⟨D, ⟨es, clock, (hb.block b hlt).trans hh, rest⟩, h2⟩
theorem MapIs.alloc (h : MapIs w k b m f) (o : Obj) : MapIs (w.alloc o) k b m f := h.kept (World.grownBy_alloc w o none) (by simp)
theorem MapIs.drewN (h : MapIs w k b m f) (n : Nat) : MapIs (w.drewN n) k b m f := h
theorem MapIs.congr {f' : Lit → Option Value} (h : MapIs w k b m f) (hf : ∀ x, f x = f' x) : MapIs w k b m f' := by
  have : f = f' := funext hf
  exact this ▸ h
theorem MapIs.look {t e : TypeId} (h : MapIs w k b m f) (K : Keyed Tryz.prog k) (ht : Tryz.prog.underlying t = some (.map k e)) {z : Value} (hz : (zeroValue e).run Tryz.prog w = .ok z w) {key : Value} {kl : Lit} (hkey : keyOf Tryz.prog k key = some kl) :
    (Instr.lookup t (.map (some b)) key false).run Tryz.prog w = .ok ((f kl).getD z) w := by
  obtain ⟨D, h1, h2, h3, h4⟩ := h
  obtain ⟨v, ps, hr, hv⟩ := h1.lookup K ht hz (zd := .held z) (zp := []) rfl hkey
  rw [h4] at hv
  simp only [tok, Option.some.injEq, Prod.mk.injEq, DataW.held.injEq] at hv
  rw [hr, hv.1]
theorem MapIs.lookOk {t e : TypeId} (h : MapIs w k b m f) (K : Keyed Tryz.prog k) (ht : Tryz.prog.underlying t = some (.map k e)) {z : Value} (hz : (zeroValue e).run Tryz.prog w = .ok z w) {key : Value} {kl : Lit} (hkey : keyOf Tryz.prog k key = some kl) :
    (Instr.lookup t (.map (some b)) key true).run Tryz.prog w = .ok (.tuple #[(f kl).getD z, .bool (f kl).isSome]) w := by
  obtain ⟨D, h1, h2, h3, h4⟩ := h
  obtain ⟨v, ps, hr, hv⟩ := h1.look_ok K ht hz (zd := .held z) (zp := []) rfl hkey
  rw [h4] at hv
  simp only [tok, Option.some.injEq, Prod.mk.injEq, DataW.held.injEq] at hv
  rw [hr, hv.1, h3]
theorem MapIs.put {t e : TypeId} (h : MapIs w k b m f) (K : Keyed Tryz.prog k) (ht : Tryz.prog.underlying t = some (.map k e)) (hm : m < maxLen) {key : Value} {kl : Lit} (v : Value) (hkey : keyOf Tryz.prog k key = some kl) :
    ∃ w', (Instr.mapUpdate t (.map (some b)) key v).run Tryz.prog w = .ok () w' ∧ MapIs w' k b (if (f kl).isSome then m else m + 1) (upd f kl v) ∧ w.grownBy w' (some b) := by
  obtain ⟨D, h1, h2, h3, h4⟩ := h
  obtain ⟨w', hr, ho, hg⟩ := h1.update K ht hm hkey (d := .held v) (ps := []) rfl
  have hk := K.key hkey
  have hsz : Maps.size (D.put kl (.held v)) = if (f kl).isSome then m else m + 1 := by
    rw [Maps.size_put (h1.tidy K), h3, h2]
  refine ⟨w', hr, ⟨D.put kl (.held v), by rw [← hsz]; exact ownsMap_tight ho, hsz, fun x => ?_, fun x z => ?_⟩, hg⟩
  · unfold upd
    by_cases hx : x = kl
    · subst hx; rw [Maps.has_put_same h1.isMap hk, WideAt.sameKey_self hk]; rfl
    · rw [Maps.has_put_other hx, h3, if_neg (by rw [WideAt.sameKey_iff hk]; exact hx)]
  · unfold upd
    by_cases hx : x = kl
    · subst hx; rw [Maps.atKey_put_same h1.isMap hk, WideAt.sameKey_self hk]; rfl
    · rw [Maps.atKey_put_other hx, h4, if_neg (by rw [WideAt.sameKey_iff hk]; exact hx)]
theorem MapIs.len {t e : TypeId} (h : MapIs w k b m f) (ht : Tryz.prog.underlying t = some (.map k e)) (ty : TypeId) : (Builtin.len_ #[t] ty #[.map (some b)]).run Tryz.prog w = .ok (.int .i64 m) w := by
  obtain ⟨D, h1, h2, h3, h4⟩ := h
  rw [h1.len ht ty, h2]
end

/-! ### at the operations, for the walk -/
section
variable (w : World) {ops : Array Oper} {rest : List Oper} {o : Oper} {a : Act} {Q : Exit → Act → World → Prop} {k : TypeId} {b m : Nat} {f : Lit → Option Value}
theorem wpList_look_M (hg : o.guard = none) (mo x : Operand) (t : TypeId) (hop : o.op = Op.lookup t mo x false) (e : TypeId) (K : Keyed Tryz.prog k) (ht : Tryz.prog.underlying t = some (.map k e)) {z : Value} (hz : (zeroValue e).run Tryz.prog w = .ok z w)
    (hm : a.eval mo = .map (some b)) (h : MapIs w k b m f) (key : Value) (kl : Lit) (hx : a.eval x = key) (hkey : keyOf Tryz.prog k key = some kl) (v : Value) (hv : (f kl).getD z = v)
    (hK : wpList Tryz.prog ops Q rest (a.put o.dst v) w) : wpList Tryz.prog ops Q (o :: rest) a w := by
  refine wpList_plain hg fun K' hK' => ?_
  have hr := h.look K ht hz hkey
  rw [hv] at hr
  unfold Oper.wp
  simp [execOp, hop, hm, hx, hr, Result.andThen]
  exact hK' _ _ hK
theorem wpList_lookOk_M (hg : o.guard = none) (mo x : Operand) (t : TypeId) (hop : o.op = Op.lookup t mo x true) (e : TypeId) (K : Keyed Tryz.prog k) (ht : Tryz.prog.underlying t = some (.map k e)) {z : Value} (hz : (zeroValue e).run Tryz.prog w = .ok z w)
    (hm : a.eval mo = .map (some b)) (h : MapIs w k b m f) (key : Value) (kl : Lit) (hx : a.eval x = key) (hkey : keyOf Tryz.prog k key = some kl) (v : Value) (ok : Bool) (hv : (f kl).getD z = v) (hok : (f kl).isSome = ok)
    (hK : wpList Tryz.prog ops Q rest (a.put o.dst (.tuple #[v, .bool ok])) w) : wpList Tryz.prog ops Q (o :: rest) a w := by
  refine wpList_plain hg fun K' hK' => ?_
  have hr := h.lookOk K ht hz hkey
  rw [hv, hok] at hr
  unfold Oper.wp
  simp [execOp, hop, hm, hx, hr, Result.andThen]
  exact hK' _ _ hK
theorem wpList_put_M (hg : o.guard = none) (mo x y : Operand) (t : TypeId) (hop : o.op = Op.mapUpdate t mo x y) (e : TypeId) (K : Keyed Tryz.prog k) (ht : Tryz.prog.underlying t = some (.map k e))
    (hm : a.eval mo = .map (some b)) (h : MapIs w k b m f) (hml : m < maxLen) (key : Value) (kl : Lit) (hx : a.eval x = key) (hkey : keyOf Tryz.prog k key = some kl) (v : Value) (hv : a.eval y = v)
    (hK : ∀ w', MapIs w' k b (if (f kl).isSome then m else m + 1) (upd f kl v) → w.grownBy w' (some b) → wpList Tryz.prog ops Q rest (a.put o.dst undef) w') : wpList Tryz.prog ops Q (o :: rest) a w := by
  refine wpList_plain hg fun K' hK' => ?_
  obtain ⟨w', hr, h1, h2⟩ := h.put K ht hml v hkey
  unfold Oper.wp
  simp [execOp, hop, hm, hx, hv, hr, Result.andThen]
  exact hK' _ _ (hK w' h1 h2)
theorem wpListIn_put_M {F : Fence} {nF : Nat} (hg : o.guard = none) (mo x y : Operand) (t : TypeId) (hop : o.op = Op.mapUpdate t mo x y) (e : TypeId) (K : Keyed Tryz.prog k) (ht : Tryz.prog.underlying t = some (.map k e))
    (hm : a.eval mo = .map (some b)) (h : MapIs w k b m f) (hml : m < maxLen) (key : Value) (kl : Lit) (hx : a.eval x = key) (hkey : keyOf Tryz.prog k key = some kl) (v : Value) (hv : a.eval y = v)
    (hK : ∀ w', MapIs w' k b (if (f kl).isSome then m else m + 1) (upd f kl v) → w.grownBy w' (some b) → wpListIn F nF Tryz.prog ops Q rest (a.put o.dst undef) w') : wpListIn F nF Tryz.prog ops Q (o :: rest) a w := by
  refine wpListIn_plain hg fun K' hK' => ?_
  obtain ⟨w', hr, h1, h2⟩ := h.put K ht hml v hkey
  unfold Oper.wpIn
  refine ⟨by simp [Oper.about, hop], ?_⟩
  rw [Oper.semAt_plain F _ _ (by rw [hop]; intro c hc'; cases hc')]
  simp [execOp, hop, hm, hx, hv, hr, Result.andThen]
  exact hK' _ _ (hK w' h1 h2)
end

/-! ### keys that are strings, keys that are numbers -/
theorem keyS : Keyed Tryz.prog 9 := Maps.string_keyed Tryz.underlying9
theorem keyN : Keyed Tryz.prog 3 := Maps.int_keyed Tryz.underlying3
def fS (g : Str → Option Value) : Lit → Option Value
  | .string s => g s
  | _ => none
def fN (g : Nat → Option Value) : Lit → Option Value
  | .int .i64 n => if 0 ≤ n ∧ n ≤ 2 ^ 62 then g n.toNat else none
  | _ => none
theorem keyOf_S (s : Str) (h : s.length ≤ maxLen) : keyOf Tryz.prog 9 (S s) = some (.string s) := by
  unfold keyOf mapKey
  simp [Tryz.underlying9, ByteArray.size, h]
theorem keyOf_Z (n : Nat) (h : n ≤ 2 ^ 62) : keyOf Tryz.prog 3 (Z n) = some (.int .i64 n) :=
  Maps.keyOf_int_mk Tryz.underlying3 (by simp [Lit.wf, IntKind.min, IntKind.max, IntKind.signed, IntKind.bits]; omega)
def updF {α : Type} [BEq α] (g : α → Option Value) (s : α) (v : Value) : α → Option Value := fun x => if x == s then some v else g x
theorem upd_S (g : Str → Option Value) (s : Str) (v : Value) : upd (fS g) (.string s) v = fS (updF g s v) := by
  funext x
  cases x <;> simp [upd, fS, updF, Lit.sameKey]
theorem upd_N (g : Nat → Option Value) (n : Nat) (hn : n ≤ 2 ^ 62) (v : Value) : upd (fN g) (.int .i64 n) v = fN (updF g n v) := by
  funext x
  cases x with
  | int q x =>
    by_cases hq : q = .i64
    · subst hq
      by_cases hx : 0 ≤ x ∧ x ≤ 2 ^ 62
      · obtain ⟨y, rfl⟩ : ∃ y : Nat, x = y := ⟨x.toNat, by omega⟩
        by_cases hy : y = n
        · subst hy; simp [upd, fN, updF, Lit.sameKey]; omega
        · have : ¬ (y : Int) = (n : Int) := by omega
          simp [upd, fN, updF, Lit.sameKey, hy, this]
      · have : ¬ x = (n : Int) := by omega
        have hx' : ¬ (0 ≤ x ∧ x ≤ 4611686018427387904) := by omega
        simp only [upd, fN, Lit.sameKey]
        simp [this, hx']
    · cases q <;> first | exact absurd rfl hq | simp [upd, fN, Lit.sameKey]
  | _ => simp [upd, fN, Lit.sameKey]
theorem fS_none : (fun _ => none : Lit → Option Value) = fS (fun _ => none) := by funext x; cases x <;> rfl
theorem fN_none : (fun _ => none : Lit → Option Value) = fN (fun _ => none) := by
  funext x; cases x with
  | int q n => cases q <;> simp [fN]
  | _ => rfl
/-- A set. -/
def inSet {α : Type} [BEq α] (l : List α) : α → Option Value := fun x => if l.contains x then some (.bool true) else none
theorem inSet_nil {α : Type} [BEq α] : (fun _ => none : α → Option Value) = inSet [] := by funext x; simp [inSet]
theorem updF_inSet {α : Type} [BEq α] [LawfulBEq α] (l : List α) (s : α) : updF (inSet l) s (.bool true) = inSet (l ++ [s]) := by
  funext x
  unfold updF inSet
  by_cases h1 : x = s
  · subst h1; simp
  · simp [h1]
theorem inSet_get {α : Type} [BEq α] (l : List α) (s : α) : (inSet l s).getD (.bool false) = .bool (l.contains s) := by
  unfold inSet; split <;> simp_all
theorem inSet_some {α : Type} [BEq α] (l : List α) (s : α) : (inSet l s).isSome = l.contains s := by
  unfold inSet; split <;> simp_all
end Go.Proofs.YthooiobhlbnaoaaGreat
