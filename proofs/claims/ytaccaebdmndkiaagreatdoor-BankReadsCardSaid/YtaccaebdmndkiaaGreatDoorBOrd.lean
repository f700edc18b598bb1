/- Orders and returns as they lie in memory: rows of structs of integers. No conditions. -/
import Derived.Test.YtaccaebdmndkiaaGreatDoorLib
import Derived.Test.YtaccaebdmndkiaaGreatDoorBSpec
import Derived.WalkKit
import Derived.WalkSpells
import Derived.WalkLawsBesides
import Derived.Deep.QuietTactic
import Derived.BigQuiet
import Derived.Handy
import Derived.Lib.Hide
import Derived.KernelRfl
import Derived.Below
import Derived.Maps.AppendAt
import Derived.Deep.AppendLies
import Derived.RangeFuncNested
namespace Go.Proofs.YtaccaebdmndkiaaGreatDoor
open Go.RowKit
set_option linter.unusedVariables false

/-- v reads in w as n rows of c integers each; the cells lie in blocks below K. -/
def Recs (c : Nat) (f : Nat → Nat → Int) (K : Nat) (w : World) (v : Value) (n : Nat) : Prop :=
  ∃ a cap, v = .slice a n cap ∧ n ≤ cap ∧ cap ≤ maxLen ∧ (a = none → cap = 0) ∧
    ∀ i, i < n → ∃ b o, a = some ⟨b, o, none⟩ ∧ b < K ∧ ∀ j, j < c → w.cell? ⟨b, o + (i * c + j), none⟩ = some (.int .i64 (f i j))

theorem Recs.cases {c : Nat} {f : Nat → Nat → Int} {K : Nat} {w : World} {v : Value} {n : Nat} (h : Recs c f K w v n) :
    (∃ a cap, v = .slice a 0 cap ∧ n = 0 ∧ cap ≤ maxLen ∧ (a = none → cap = 0)) ∨
    (∃ b o cap, v = .slice (some ⟨b, o, none⟩) n cap ∧ 0 < n ∧ n ≤ cap ∧ cap ≤ maxLen ∧ b < K ∧
      ∀ i, i < n → ∀ j, j < c → w.cell? ⟨b, o + (i * c + j), none⟩ = some (.int .i64 (f i j))) := by
  obtain ⟨a, cap, rfl, hl, hm, hz, hc⟩ := h
  by_cases h0 : n = 0
  · subst h0
    exact .inl ⟨a, cap, rfl, rfl, hm, hz⟩
  · obtain ⟨b, o, rfl, hb, _⟩ := hc 0 (by omega)
    refine .inr ⟨b, o, cap, rfl, by omega, hl, hm, hb, fun i hi => ?_⟩
    obtain ⟨b', o', he, _, hcell⟩ := hc i hi
    simp only [Option.some.injEq, Addr.mk.injEq, and_true] at he
    obtain ⟨rfl, rfl⟩ := he
    exact hcell

theorem Recs.mk_cells {c : Nat} {f : Nat → Nat → Int} {K : Nat} {w : World} {n : Nat} {b o cap : Nat} (hl : n ≤ cap) (hm : cap ≤ maxLen) (hb : b < K)
    (hc : ∀ i, i < n → ∀ j, j < c → w.cell? ⟨b, o + (i * c + j), none⟩ = some (.int .i64 (f i j))) : Recs c f K w (.slice (some ⟨b, o, none⟩) n cap) n :=
  ⟨_, cap, rfl, hl, hm, (fun h => nomatch h), fun i hi => ⟨b, o, rfl, hb, hc i hi⟩⟩

theorem Recs.nil {c : Nat} {f : Nat → Nat → Int} {K : Nat} {w : World} (a : Option Addr) (cap : Nat) (hm : cap ≤ maxLen) (hz : a = none → cap = 0) : Recs c f K w (.slice a 0 cap) 0 :=
  ⟨a, cap, rfl, Nat.zero_le _, hm, hz, fun i hi => absurd hi (by simp)⟩

theorem Recs.below {c : Nat} {f : Nat → Nat → Int} {K K' B : Nat} {w w' : World} {v : Value} {n : Nat} (h : Recs c f K w v n) (hb : Below B w w') (hB : K ≤ B) (hK : K ≤ K') : Recs c f K' w' v n := by
  obtain ⟨a, cap, rfl, hl, hm, hz, hc⟩ := h
  refine ⟨a, cap, rfl, hl, hm, hz, fun i hi => ?_⟩
  obtain ⟨b, o, rfl, hbK, hcell⟩ := hc i hi
  exact ⟨b, o, rfl, by omega, fun j hj => (hb.cell (p := ⟨b, o + (i * c + j), none⟩) (by simp; omega)).trans (hcell j hj)⟩

theorem Recs.drewN {c : Nat} {f : Nat → Nat → Int} {K : Nat} {w : World} {v : Value} {n : Nat} (h : Recs c f K w v n) (k : Nat) : Recs c f K (w.drewN k) v n := h
theorem Recs.congr {c : Nat} {f g : Nat → Nat → Int} {K : Nat} {w : World} {v : Value} {n : Nat} (h : Recs c f K w v n) (hg : ∀ i, i < n → ∀ j, j < c → f i j = g i j) : Recs c g K w v n := by
  obtain ⟨a, cap, rfl, hl, hm, hz, hc⟩ := h
  refine ⟨a, cap, rfl, hl, hm, hz, fun i hi => ?_⟩
  obtain ⟨b, o, rfl, hbK, hcell⟩ := hc i hi
  exact ⟨b, o, rfl, hbK, fun j hj => by rw [hcell j hj, hg i hi j hj]⟩

def Od.fld (o : Od) : Nat → Int
  | 0 => o.num
  | 1 => o.acc
  | 2 => o.gross
  | 3 => o.tax
  | _ => o.net
def Rt.fld (r : Rt) : Nat → Int
  | 0 => r.ord
  | _ => r.why
abbrev I (n : Int) : Value := .int .i64 n
abbrev odV (o : Od) : Value := .agg #[.int .i64 o.num, .int .i64 o.acc, .int .i64 o.gross, .int .i64 o.tax, .int .i64 o.net]
abbrev rtV (r : Rt) : Value := .agg #[.int .i64 r.ord, .int .i64 r.why]

/-- v reads as the orders l. -/
def Ords (K : Nat) (w : World) (v : Value) (l : List Od) : Prop := Recs 5 (fun i j => (l[i]?.getD Od.z).fld j) K w v l.length
/-- v reads as the returns l. -/
def Rets (K : Nat) (w : World) (v : Value) (l : List Rt) : Prop := Recs 2 (fun i j => (l[i]?.getD Rt.z).fld j) K w v l.length

/-- What the orders' cells are. -/
theorem ord_cells {w : World} {b o : Nat} {l : List Od} (hc : ∀ i, i < l.length → ∀ j, j < 5 → w.cell? ⟨b, o + (i * 5 + j), none⟩ = some (.int .i64 ((l[i]?.getD Od.z).fld j))) {k : Nat} (hk : k < l.length) :
    w.cell? ⟨b, o + k * 5, none⟩ = some (.int .i64 (l[k]?.getD Od.z).num) ∧ w.cell? ⟨b, o + k * 5 + 1, none⟩ = some (.int .i64 (l[k]?.getD Od.z).acc) ∧ w.cell? ⟨b, o + k * 5 + 2, none⟩ = some (.int .i64 (l[k]?.getD Od.z).gross) ∧
    w.cell? ⟨b, o + k * 5 + 3, none⟩ = some (.int .i64 (l[k]?.getD Od.z).tax) ∧ w.cell? ⟨b, o + k * 5 + 4, none⟩ = some (.int .i64 (l[k]?.getD Od.z).net) := by
  have h := hc k hk
  exact ⟨h 0 (by omega), h 1 (by omega), h 2 (by omega), h 3 (by omega), h 4 (by omega)⟩
theorem ret_cells {w : World} {b o : Nat} {l : List Rt} (hc : ∀ i, i < l.length → ∀ j, j < 2 → w.cell? ⟨b, o + (i * 2 + j), none⟩ = some (.int .i64 ((l[i]?.getD Rt.z).fld j))) {k : Nat} (hk : k < l.length) :
    w.cell? ⟨b, o + k * 2, none⟩ = some (.int .i64 (l[k]?.getD Rt.z).ord) ∧ w.cell? ⟨b, o + k * 2 + 1, none⟩ = some (.int .i64 (l[k]?.getD Rt.z).why) := by
  have h := hc k hk
  exact ⟨h 0 (by omega), h 1 (by omega)⟩

/-- A block that is known whole. -/
def Blk (w : World) (b : Nat) (cs : Array Value) (t : TypeId) : Prop := w.heap[b]? = some (.cells cs t (0, 0))
theorem Blk.new (w : World) (cs : Array Value) (t : TypeId) : Blk (w.alloc (.cells cs t)) w.heap.size cs t := World.alloc_heap_new w _
theorem Blk.lt {w : World} {b t : Nat} {cs : Array Value} (h : Blk w b cs t) : b < w.heap.size := (Array.getElem?_eq_some_iff.1 h).1
theorem Blk.alloc {w : World} {b t : Nat} {cs : Array Value} (h : Blk w b cs t) (o : Obj) : Blk (w.alloc o) b cs t := (Below.heap_alloc _ _ _ h.lt).trans h
theorem Blk.below {w w' : World} {B b t : Nat} {cs : Array Value} (h : Blk w b cs t) (hb : Below B w w') (hlt : b < B) : Blk w' b cs t := (hb.block b hlt).trans h
theorem Blk.set {w : World} {b t i : Nat} {cs : Array Value} (h : Blk w b cs t) (x : Value) : Blk (w.setCell ⟨b, i, none⟩ x) b (cs.setIfInBounds i x) t := by
  unfold Blk at *
  simp [World.setCell, Array.getElem?_modify, h]
theorem Blk.other {w : World} {b b' t i : Nat} {cs : Array Value} (h : Blk w b cs t) (hne : b ≠ b') (x : Value) : Blk (w.setCell ⟨b', i, none⟩ x) b cs t := (Below.heap_setCell _ _ _ _ (by simpa using hne)).trans h
theorem Blk.at {w : World} {b t i : Nat} {cs : Array Value} {x : Value} (h : Blk w b cs t) (hi : cs[i]? = some x) : w.cell? ⟨b, i, none⟩ = some x := by
  unfold Blk at h; simp [World.cell?, h, hi]
theorem Blk.free {w : World} {b t : Nat} {cs : Array Value} (h : Blk w b cs t) (i : Nat) : w.frozen? ⟨b, i, none⟩ = false := by
  unfold Blk at h; simp [World.frozen?, h]
theorem Blk.three {w : World} {b t : Nat} {x y z : Value} (h : Blk w b #[x, y, z] t) : w.cell? ⟨b, 0, none⟩ = some x ∧ w.cell? ⟨b, 1, none⟩ = some y ∧ w.cell? ⟨b, 2, none⟩ = some z :=
  ⟨h.at rfl, h.at rfl, h.at rfl⟩
theorem Blk.five {w : World} {b t : Nat} {x0 x1 x2 x3 x4 : Value} (h : Blk w b #[x0, x1, x2, x3, x4] t) : w.cell? ⟨b, 0, none⟩ = some x0 ∧ w.cell? ⟨b, 1, none⟩ = some x1 ∧ w.cell? ⟨b, 2, none⟩ = some x2 ∧ w.cell? ⟨b, 3, none⟩ = some x3 ∧ w.cell? ⟨b, 4, none⟩ = some x4 :=
  ⟨h.at rfl, h.at rfl, h.at rfl, h.at rfl, h.at rfl⟩
theorem Blk.two {w : World} {b t : Nat} {x0 x1 : Value} (h : Blk w b #[x0, x1] t) : w.cell? ⟨b, 0, none⟩ = some x0 ∧ w.cell? ⟨b, 1, none⟩ = some x1 :=
  ⟨h.at rfl, h.at rfl⟩

theorem ret_bool {a b : Bool} (h : a = b) : Ending.returned (.bool a) = .returned (.bool b) := by rw [h]
theorem ret_int {k : IntKind} {a b : Int} (h : a = b) : Ending.returned (.int k a) = .returned (.int k b) := by rw [h]
end Go.Proofs.YtaccaebdmndkiaaGreatDoor
