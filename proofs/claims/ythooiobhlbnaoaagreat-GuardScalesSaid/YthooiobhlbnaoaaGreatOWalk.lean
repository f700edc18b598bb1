/- Package order's iterator over the parts of an expression: walk, parts. No conditions beyond the readings of the arguments. -/
import Derived.Test.YthooiobhlbnaoaaGreatOMap
import Derived.Test.YthooiobhlbnaoaaGreatORF
import Derived.OrdersHeld
import Derived.Sort.QuietIn
namespace Go.Proofs.YthooiobhlbnaoaaGreat
open Go.RowKit
set_option linter.unusedVariables false
attribute [local go_sem] Oper.semAt_some

def Xv.enc (x : Xv) : Array Value := #[x.agg]
def Xv.key (x : Xv) : Int × Str := (x.op, x.nm)

/-- What a round keeps: what lay below K, and every box of an expression. -/
def KpE (K : Nat) (W W' : World) : Prop := Below K W W' ∧ ∀ r cs, Blk W r cs 32 → Blk W' r cs 32

theorem room_of_none {F : Fence} (hd : F.depth = none) (k : Nat) : F.room k := fun d h => by rw [hd] at h; cases h
theorem RoundIn.anyDepth {F : Fence} (hd : F.depth = none) {m m' : Nat} {P : Program} {l : Nat} {f : FuncId} {tmps : Array Value} {assign body : Code} {w : World} {R : Ending → World → Prop}
    (h : RoundIn F m P l f tmps assign body w R) : RoundIn F m' P l f tmps assign body w R := ⟨h.1, fun c cs _ => h.2 c cs (room_of_none hd _)⟩
theorem YieldAt.anyDepth {F : Fence} (hd : F.depth = none) {m : Nat} (m' : Nat) {P : Program} {l : Nat} {args : Array Value} {W : World} {R : Ending → World → Prop} (h : YieldAt F m P l args W R) : YieldAt F m' P l args W R := by
  obtain ⟨fn, tmps, assign, body, hy, hR⟩ := h
  exact ⟨fn, tmps, assign, body, hy, RoundIn.anyDepth hd hR⟩

theorem preL_take (es : List Ex) (k : Nat) (e : Ex) (h : es[k]? = some e) : preL (es.take (k + 1)) = preL (es.take k) ++ e.pre := by
  have hk := (List.getElem?_eq_some_iff.1 h).1
  rw [List.take_succ_eq_append_getElem hk, preL_append]
  have : es[k] = e := by rw [List.getElem?_eq_getElem hk] at h; exact Option.some.inj h
  rw [this]; simp [preL]

theorem preL_take_le (es : List Ex) (k : Nat) : (preL (es.take k)).length ≤ (preL es).length := by
  have h := congrArg preL (List.take_append_drop k es)
  rw [preL_append] at h
  rw [← h, List.length_append]; omega

/-- What a call of walk leaves. -/
def WalkPost (K : Nat) (J Jx : List Xv → World → Prop) (pre : List Xv) (ps : List (Int × Str)) (W : World) (en : Ending) (W' : World) : Prop :=
  (en = .returned (.bool true) ∧ ∃ xs : List Xv, xs.map Xv.key = ps ∧ J (pre ++ xs) W' ∧ Below K W W' ∧ W.heap.size ≤ W'.heap.size) ∨ (en = .returned (.bool false) ∧ ∃ xs, Jx (pre ++ xs) W')

end Go.Proofs.YthooiobhlbnaoaaGreat
