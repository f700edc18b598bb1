/- Words that the texts of this seat share: byte slices that are read, byte rows that a call owns. No conditions. -/
import Derived.Test.YtaccaebdmndkiaaGreatDoorProg
import Derived.WalkKit
import Derived.WalkSpells
import Derived.WalkLawsBesides
import Derived.Deep.QuietTactic
import Derived.BigQuiet
import Derived.Handy
import Derived.Lib.Hide
import Derived.KernelRfl
import Derived.Maps.AppendAt
import Derived.Deep.AppendLies
namespace Go.Proofs.YtaccaebdmndkiaaGreatDoor
open Go.RowKit
set_option linter.unusedVariables false

/-- A byte as a value. -/
abbrev B (b : UInt8) : Value := .int .u8 (b.toNat : Int)

theorem B_oneCell (l : List UInt8) : ∀ u ∈ l.map B, u.oneCell' = true := by
  intro u hu
  obtain ⟨b, _, rfl⟩ := List.mem_map.1 hu
  rfl

/-- v reads as the bytes l in w; the cells lie in blocks below K. -/
def Byts (K : Nat) (w : World) (v : Value) (l : List UInt8) : Prop :=
  ∃ a cap, v = .slice a l.length cap ∧ l.length ≤ cap ∧ cap ≤ maxLen ∧ (a = none → cap = 0) ∧
    ∀ i, i < l.length → ∃ b o, a = some ⟨b, o, none⟩ ∧ b < K ∧ w.cell? ⟨b, o + i, none⟩ = some (B (l[i]?.getD 0))

theorem Byts.cases {K : Nat} {w : World} {v : Value} {l : List UInt8} (h : Byts K w v l) :
    (∃ a cap, v = .slice a 0 cap ∧ l = [] ∧ cap ≤ maxLen ∧ (a = none → cap = 0)) ∨
    (∃ b o cap, v = .slice (some ⟨b, o, none⟩) l.length cap ∧ 0 < l.length ∧ l.length ≤ cap ∧ cap ≤ maxLen ∧ b < K ∧
      ∀ i, i < l.length → w.cell? ⟨b, o + i, none⟩ = some (B (l[i]?.getD 0))) := by
  obtain ⟨a, cap, rfl, hl, hm, hz, hc⟩ := h
  by_cases h0 : l.length = 0
  · have : l = [] := List.eq_nil_of_length_eq_zero h0
    subst this
    exact .inl ⟨a, cap, rfl, rfl, hm, hz⟩
  · obtain ⟨b, o, rfl, hb, _⟩ := hc 0 (by omega)
    refine .inr ⟨b, o, cap, rfl, by omega, hl, hm, hb, fun i hi => ?_⟩
    obtain ⟨b', o', he, _, hcell⟩ := hc i hi
    simp only [Option.some.injEq, Addr.mk.injEq, and_true] at he
    obtain ⟨rfl, rfl⟩ := he
    exact hcell

theorem Byts.mk_cells {K : Nat} {w : World} {l : List UInt8} {b o cap : Nat} (hl : l.length ≤ cap) (hm : cap ≤ maxLen) (hb : b < K)
    (hc : ∀ i, i < l.length → w.cell? ⟨b, o + i, none⟩ = some (B (l[i]?.getD 0))) : Byts K w (.slice (some ⟨b, o, none⟩) l.length cap) l :=
  ⟨_, cap, rfl, hl, hm, (fun h => nomatch h), fun i hi => ⟨b, o, rfl, hb, hc i hi⟩⟩

theorem Byts.nil {K : Nat} {w : World} (a : Option Addr) (cap : Nat) (hm : cap ≤ maxLen) (hz : a = none → cap = 0) : Byts K w (.slice a 0 cap) [] :=
  ⟨a, cap, rfl, Nat.zero_le _, hm, hz, fun i hi => absurd hi (by simp)⟩

theorem Byts.below {K K' : Nat} {w w' : World} {v : Value} {l : List UInt8} (h : Byts K w v l) (hb : Below K w w') (hK : K ≤ K') : Byts K' w' v l := by
  obtain ⟨a, cap, rfl, hl, hm, hz, hc⟩ := h
  refine ⟨a, cap, rfl, hl, hm, hz, fun i hi => ?_⟩
  obtain ⟨b, o, rfl, hbK, hcell⟩ := hc i hi
  exact ⟨b, o, rfl, by omega, (hb.cell (p := ⟨b, o + i, none⟩) hbK).trans hcell⟩

theorem Byts.drewN {K : Nat} {w : World} {v : Value} {l : List UInt8} (h : Byts K w v l) (n : Nat) : Byts K (w.drewN n) v l := h

/-- A contract that leaves the world alone, inside a region that draws its order. -/
theorem quiet_eq {P : Program} {f : FuncId} {args : Array Value} {w : World} {n : Nat} {v : Value}
    (h : Calls P f args (w.drewN n) fun e w' => e = .returned v ∧ w.drewN n = w') : Calls P f args (w.drewN n) fun e w'' => e = .returned v ∧ ∃ m, w'' = w.drewN m :=
  Calls.quiet_of_same (h.mono fun _ _ ⟨he, hw⟩ => ⟨he, hw.symm⟩)

theorem Byts.len_le {K : Nat} {w : World} {v : Value} {l : List UInt8} (h : Byts K w v l) : l.length ≤ maxLen := by
  obtain ⟨a, cap, rfl, hl, hm, _, hc⟩ := h; omega

/-- The bytes of a row of the call's own. -/
def OwnB (base : Nat) (w : World) (v : Value) (l : List UInt8) : Prop := w.ownsRow base 5 1 v l.length (l.map B)

theorem OwnB.byts {base : Nat} {w : World} {v : Value} {l : List UInt8} (h : OwnB base w v l) : Byts w.heap.size w v l := by
  rcases h.2 with ⟨rfl, h0⟩ | ⟨g, cap, cur, rfl, hb, hg, hn, hm, hs, ht⟩
  · have : l = [] := List.eq_nil_of_length_eq_zero h0
    subst this
    exact Byts.nil none 0 (by simp [maxLen]) (fun _ => rfl)
  · refine Byts.mk_cells hn hm (Array.getElem?_eq_some_iff.1 hg).1 fun i hi => ?_
    have := World.ownsRow.cells h (g := g) rfl i (B (l[i]?.getD 0)) (by simp [hi])
    rw [Addr.add] at this
    by_cases h0 : i = 0
    · subst h0; simpa using this
    · simpa [h0] using this

theorem u8_lt (b : UInt8) : (b.toNat : Int) < 256 := by have := b.toNat_lt; omega

theorem Tryz.infoU8 : (Tryz.prog.info? 5).map (fun i => (i.zero, i.size, i.bytes)) = some (some (.int .u8 0), 1, 1) := by kernel_rfl

theorem OwnB.nil (base : Nat) (w : World) : OwnB base w (.slice none 0 0) [] := World.ownsRow_nil w base 5 1
theorem OwnB.alloc {base : Nat} {w : World} {v : Value} {l : List UInt8} (h : OwnB base w v l) (o : Obj) : OwnB base (w.alloc o) v l := World.ownsRow.alloc h o
theorem OwnB.kept {base : Nat} {w w' : World} {v : Value} {l : List UInt8} {row : Option Nat} (h : OwnB base w v l) (hg : w.grownBy w' row) (hne : v.ownBlock = none ∨ v.ownBlock ≠ row) : OwnB base w' v l := World.ownsRow.kept h hg hne
theorem OwnB.mono {base base' : Nat} {w : World} {v : Value} {l : List UInt8} (h : OwnB base w v l) (hb : base' ≤ base) : OwnB base' w v l := by
  refine ⟨h.1, ?_⟩
  rcases h.2 with hn | ⟨g, cap, cur, rfl, hbg, rest⟩
  · exact .inl hn
  · exact .inr ⟨g, cap, cur, rfl, by omega, rest⟩

/-- append of bytes that are read to a row of the call's own. -/
theorem run_append_B (w : World) (ty : TypeId) {base K : Nat} {v vx : Value} {xs l : List UInt8} (hown : OwnB base w v xs) (hx : Byts K w vx l) (h63 : xs.length + l.length ≤ 2 ^ 46) (hbase : base ≤ w.heap.size) :
    ∃ v' w', (Builtin.append_ #[73, 73] ty #[v, vx]).run Tryz.prog w = .ok v' w' ∧ OwnB base w' v' (xs ++ l) ∧ w.grownBy w' v.ownBlock ∧ (v'.ownBlock = v.ownBlock ∨ v'.ownBlock = some w.heap.size) := by
  obtain ⟨i0, hi, hz0, hz1, hz2⟩ := info_parts Tryz.infoU8
  obtain ⟨a, cap, rfl, hl, hm, hz, hc⟩ := hx
  cases a with
  | none =>
    have h0 : l = [] := by
      cases l with
      | nil => rfl
      | cons b r => obtain ⟨b', o', h, _⟩ := hc 0 (by simp); cases h
    subst h0
    obtain rfl := hz rfl
    refine ⟨v, w, run_append_owned_none w base 73 ty 5 i0 1 Tryz.underlying73 hi v xs.length _ hown, by simpa using hown, World.grownBy.refl _ _, .inl rfl⟩
  | some ad =>
    obtain ⟨v', w', h1, h2, h3, _, h5⟩ := run_append_own_at (P := Tryz.prog) w base 73 ty 5 i0 (.int .u8 0) 1 1 Tryz.underlying73 hi hz0 hz1 hz2 rfl (by decide) v xs.length _ hown ad l.length cap (l.map B) (by simp)
      (fun j u hj => by
        have hjl : j < l.length := by
          have := (List.getElem?_eq_some_iff.1 hj).1; simpa using this
        obtain ⟨b, o, he, _, hcell⟩ := hc j hjl
        simp only [Option.some.injEq] at he
        subst he
        have hu : u = B (l[j]?.getD 0) := by simp [hjl] at hj; simp [hjl, hj]
        rw [hu, ← hcell, Addr.add]
        by_cases hj0 : j = 0
        · subst hj0; rfl
        · simp [hj0])
      (B_oneCell l) (by simp only [maxLen]; omega) (by omega) hbase
    refine ⟨v', w', h1, ?_, h3, h5⟩
    unfold OwnB
    rw [List.length_append, List.map_append]
    exact h2

theorem wp_append_B {w : World} {o : Oper} {a : Act} {C : Act → World → Prop} {Q : Exit → Act → World → Prop} (s x : Operand)
    (ho : o.op = .call { callee := .builtin .append, args := #[s, x], argTypes := #[73, 73] })
    {base K : Nat} {v vx : Value} {xs l : List UInt8} (hs : a.eval s = v) (hxv : a.eval x = vx) (hown : OwnB base w v xs) (hx : Byts K w vx l) (h63 : xs.length + l.length ≤ 2 ^ 46) (hbase : base ≤ w.heap.size)
    (h : ∀ v' w', OwnB base w' v' (xs ++ l) → w.grownBy w' v.ownBlock → (v'.ownBlock = v.ownBlock ∨ v'.ownBlock = some w.heap.size) → C (a.put o.dst v') w') : o.wp Tryz.prog a w C Q := by
  obtain ⟨v', w', hr, h2, h3, h4⟩ := run_append_B w o.type hown hx h63 hbase
  unfold Oper.wp execOp
  simp only [ho, resolve, invoke, builtin, Sem.run_bind, Sem.run_pure, Result.andThen_ok, List.map_toArray, List.map_cons, List.map_nil, hs, hxv, hr]
  exact h v' w' h2 h3 h4

theorem wpList_append_B {w : World} {ops : Array Oper} {rest : List Oper} {o : Oper} {a : Act} {Q : Exit → Act → World → Prop} (hgd : o.guard = none) (s x : Operand)
    (ho : o.op = .call { callee := .builtin .append, args := #[s, x], argTypes := #[73, 73] })
    {base K : Nat} {v vx : Value} {xs l : List UInt8} (hs : a.eval s = v) (hxv : a.eval x = vx) (hown : OwnB base w v xs) (hx : Byts K w vx l) (h63 : xs.length + l.length ≤ 2 ^ 46) (hbase : base ≤ w.heap.size)
    (h : ∀ v' w', OwnB base w' v' (xs ++ l) → w.grownBy w' v.ownBlock → (v'.ownBlock = v.ownBlock ∨ v'.ownBlock = some w.heap.size) → wpList Tryz.prog ops Q rest (a.put o.dst v') w') : wpList Tryz.prog ops Q (o :: rest) a w :=
  wpList_plain hgd fun _ hK => wp_append_B s x ho hs hxv hown hx h63 hbase fun v' w' h2 h3 h4 => hK _ _ (h v' w' h2 h3 h4)

end Go.Proofs.YtaccaebdmndkiaaGreatDoor
