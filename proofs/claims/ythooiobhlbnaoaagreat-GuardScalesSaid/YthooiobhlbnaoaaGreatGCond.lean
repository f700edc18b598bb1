/- Layer 16 in plain Lean: values, conditions, tests, scales. No conditions. -/
import Derived.Test.YthooiobhlbnaoaaGreatOSpec
namespace Go.Proofs.YthooiobhlbnaoaaGreat
set_option linter.unusedVariables false

/-- A value: its kind, the signs and limbs of its numerator and denominator, its number. -/
structure Vq where
  kd : Int
  g1 : Bool
  l1 : List Nat
  g2 : Bool
  l2 : List Nat
  i : Int
deriving DecidableEq, Inhabited
/-- The value of no kind. -/
def v0 : Vq := ⟨0, false, [], false, [], 0⟩
/-- The number that limbs mean. -/
def lval : List Nat → Nat
  | [] => 0
  | d :: r => d + 65536 * lval r
/-- Number and Money are compared by their fractions. -/
def Vq.fr (v : Vq) : Bool := v.kd == 2 || v.kd == 3
/-- A whole number of at most m limbs is valid. -/
def wOk (m : Nat) (g : Bool) (l : List Nat) : Bool := if l.length = 0 then !g else decide (l.length ≤ m) && l[l.length - 1]?.getD 0 != 0
/-- A fraction is valid. -/
def frOk (g1 : Bool) (l1 : List Nat) (g2 : Bool) (l2 : List Nat) : Bool :=
  decide (l1.length ≤ 256) && decide (l2.length ≤ 256) && wOk 1024 g1 l1 && wOk 1024 g2 l2 && !g2 && l2.length != 0 && Nat.gcd (lval l1) (lval l2) == 1
/-- A valid value. -/
def Vq.ok (v : Vq) : Bool :=
  if v.fr then v.i == 0 && frOk v.g1 v.l1 v.g2 v.l2
  else if v.kd == 1 ∨ v.kd == 4 ∨ v.kd == 5 ∨ v.kd == 6 then
    v.l1.length == 0 && v.l2.length == 0 && !v.g1 && !v.g2 && (if v.kd == 1 then decide (0 ≤ v.i) && decide (v.i ≤ 1) else if v.kd == 4 then decide (0 ≤ v.i) && decide (v.i < 65536) else decide (-1048576 ≤ v.i) && decide (v.i ≤ 1048576))
  else false
/-- A value's numerator and denominator. -/
def Vq.top (v : Vq) : Int := if v.fr then (if v.g1 then -(lval v.l1 : Int) else lval v.l1) else v.i
def Vq.bot (v : Vq) : Int := if v.fr then lval v.l2 else 1
def cmpI (a b : Int) : Int := if a < b then -1 else if b < a then 1 else 0
/-- Values of the same kind are compared. -/
def vcmp (a b : Vq) : Int := cmpI (a.top * b.bot) (b.top * a.bot)
def vle (a b : Vq) : Bool := decide (a.top * b.bot ≤ b.top * a.bot)
def veq (a b : Vq) : Bool := decide (a.top * b.bot = b.top * a.bot)
def vlt (a b : Vq) : Prop := a.top * b.bot < b.top * a.bot
/-- The values with which can be computed: those that are no fractions, and small fractions. -/
def Vq.good (v : Vq) : Bool := decide (v.l1.length ≤ 8) && decide (v.l2.length ≤ 8) && (!v.fr || v.i == 0 && !v.g1 && !v.g2 && decide (v.l1.length ≤ 1) && decide (lval v.l1 < 1024) && wOk 1024 v.g1 v.l1 && (v.l2 == [1] || v.l2 == [2] && lval v.l1 % 2 == 1))

/-- A condition. -/
inductive Gx where
  | mk (op : Int) (nm : Str) (v : Vq) (args : List Gx)
deriving Inhabited
def Gx.op : Gx → Int | .mk o _ _ _ => o
def Gx.nm : Gx → Str | .mk _ n _ _ => n
def Gx.v : Gx → Vq | .mk _ _ v _ => v
def Gx.args : Gx → List Gx | .mk _ _ _ es => es

mutual
def Gx.parts : Gx → Nat
  | .mk _ _ _ es => partsL es + 1
def partsL : List Gx → Nat
  | [] => 0
  | e :: r => e.parts + partsL r
end
mutual
def Gx.depth : Gx → Nat
  | .mk _ _ _ es => depthL es + 1
def depthL : List Gx → Nat
  | [] => 0
  | e :: r => max e.depth (depthL r)
end
mutual
/-- Two expressions are the same. -/
def sameG : Gx → Gx → Bool
  | .mk o n v es, .mk o' n' v' es' => o == o' && n == n' && v == v' && sameL es es'
def sameL : List Gx → List Gx → Bool
  | [], [] => true
  | a :: r, b :: s => sameG a b && sameL r s
  | _, _ => false
end
mutual
theorem sameG_iff : ∀ a b : Gx, sameG a b = true ↔ a = b
  | .mk o n v es, .mk o' n' v' es' => by
    have := sameL_iff es es'
    rw [sameG]
    simp [this, and_assoc]
theorem sameL_iff : ∀ a b : List Gx, sameL a b = true ↔ a = b
  | [], [] => by simp [sameL]
  | [], b :: s => by simp [sameL]
  | a :: r, [] => by simp [sameL]
  | a :: r, b :: s => by
    have h1 := sameG_iff a b
    have h2 := sameL_iff r s
    rw [sameL]
    simp [h1, h2]
end
mutual
/-- All values are such that can be computed with. -/
def Gx.good : Gx → Bool
  | .mk _ _ v es => v.good && goodL es
def goodL : List Gx → Bool
  | [] => true
  | e :: r => e.good && goodL r
end
/-- A constant truth. -/
def Gx.settled (e : Gx) : Bool := e.op == 1 && e.v.kd == 1 && e.v.ok
def Gx.composed (e : Gx) : Bool := (e.op == 15 || e.op == 16) && e.args.length == 2 || e.op == 17 && e.args.length == 1 || e.op == 18 && e.args.length == 3
mutual
/-- The tests of a condition, from left to right. -/
def Gx.tests : Gx → List Gx
  | .mk o n v es => if (Gx.mk o n v es).settled then [] else if (Gx.mk o n v es).composed then testsL es else [.mk o n v es]
def testsL : List Gx → List Gx
  | [] => []
  | e :: r => e.tests ++ testsL r
end
/-- A test: its subject, its kind, its cut, its operation, whether the subject is the second argument. -/
structure Tq where
  sub : Gx
  kd : Int
  cut : Vq
  op : Int
  snd : Bool
deriving Inhabited
def isCut (c s : Gx) : Bool := c.op == 1 && s.op != 1 && c.v.kd != 1 && c.v.ok
def testOf (e : Gx) : Tq :=
  if (e.op == 13 || e.op == 14) && e.args.length == 2 then
    if isCut (e.args[0]?.getD default) (e.args[1]?.getD default) then ⟨e.args[1]?.getD default, (e.args[0]?.getD default).v.kd, (e.args[0]?.getD default).v, e.op, true⟩
    else if isCut (e.args[1]?.getD default) (e.args[0]?.getD default) then ⟨e.args[0]?.getD default, (e.args[1]?.getD default).v.kd, (e.args[1]?.getD default).v, e.op, false⟩
    else ⟨e, 0, v0, 0, false⟩
  else ⟨e, 0, v0, 0, false⟩
/-- A scale. -/
structure Sc where
  e : Gx
  kd : Int
  cuts : List Vq
deriving Inhabited
def Tq.belongs (t : Tq) (s : Sc) : Bool := t.kd == s.kd && sameG t.sub s.e
/-- The first cut that is not less than a value. -/
def srch (l : List Vq) (v : Vq) : Nat := l.findIdx fun c => vle v c
def fnd (l : List Vq) (v : Vq) : Bool := decide (srch l v < l.length) && veq (l[srch l v]?.getD v0) v
/-- A cut is added, unless there is it; none if there are too many. -/
def insC (l : List Vq) (v : Vq) : Option (List Vq) := if fnd l v then some l else if l.length = 32 then none else some (l.take (srch l v) ++ v :: l.drop (srch l v))
def insS (l : List Sc) (i : Nat) (t : Tq) : Option (List Sc) :=
  if t.kd = 0 then some l else (insC (l[i]?.getD default).cuts t.cut).map fun c => l.set i { (l[i]?.getD default) with cuts := c }
/-- A test is added to scales. -/
def addT (l : List Sc) (t : Tq) : Option (List Sc) :=
  let i := l.findIdx t.belongs
  if i < l.length then insS l i t
  else if l.length = 16 then none
  else insS (l ++ [⟨t.sub, t.kd, []⟩]) l.length t
def addTs : List Sc → List Tq → Option (List Sc)
  | l, [] => some l
  | l, t :: r => (addT l t).bind fun l' => addTs l' r
def fits (e : Gx) : Bool := decide (e.parts ≤ 200) && decide (e.depth ≤ 24)
/-- The scales of conditions; the number of the error. -/
def scalesS (l : List Gx) : List Sc × Int :=
  if l.all fits then
    match addTs [] ((testsL l).map testOf) with
    | none => ([], 5)
    | some s => (s, 0)
  else ([], 2)
end Go.Proofs.YthooiobhlbnaoaaGreat
