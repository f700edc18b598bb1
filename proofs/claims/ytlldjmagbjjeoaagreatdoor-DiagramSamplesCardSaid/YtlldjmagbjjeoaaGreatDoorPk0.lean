/- Short names for lemmas that are used often. No conditions. -/
import Derived.ProofKit
import Derived.Lib.Hide
namespace Go.Proofs.YtlldjmagbjjeoaaGreatDoor
open Go.RowKit
theorem Aa {p:Prop} (h:p):Hid p := Lib.hid h
theorem Ab (n:Nat):n<=n := Nat.le_refl n
theorem Ac {α:Type _} {l:List α} {i:Nat} (h:i<l.length):l[i]?=some l[i] := List.getElem?_eq_getElem h
theorem Ae {α:Sort _} (a:α):exists x, a=x := ⟨a, rfl⟩
theorem Af (w:World) (o:Obj):Below w.heap.size w (w.alloc o) := (Below.refl _ _).alloc (Nat.le_refl _) o
theorem Ad {α:Type _} {a:α} {l:List α} {i:Nat}:l[i]?=some a <-> exists h:i<l.length, l[i]=a := List.getElem?_eq_some_iff
end Go.Proofs.YtlldjmagbjjeoaaGreatDoor
