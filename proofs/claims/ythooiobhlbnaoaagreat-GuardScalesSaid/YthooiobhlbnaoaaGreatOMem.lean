/- Layer 15: rows of values, strings, expressions and plans as they lie in memory. No conditions. -/
import Derived.Test.YthooiobhlbnaoaaGreatProg
import Derived.Test.YthooiobhlbnaoaaGreatOSpec
import Derived.WalkKit
import Derived.WalkSpells
import Derived.WalkLawsBesides
import Derived.Deep.QuietTactic
import Derived.BigQuiet
import Derived.Handy
import Derived.Lib.Hide
import Derived.KernelRfl
import Derived.Below
import Derived.Maps.AppendAt
import Derived.Deep.AppendLies
import Derived.RangeFuncNested
import Derived.Deep.MidRow
namespace Go.Proofs.YthooiobhlbnaoaaGreat
open Go.RowKit
set_option linter.unusedVariables false

abbrev S (s : Str) : Value := .string ⟨s.toArray⟩
abbrev Z (n : Nat) : Value := .int .i64 (n : Int)

/-- v reads in w es n rows of c cells each; the cells lie in blocks below K. -/
def RowsV (c : Nat) (f : Nat → Nat → Value) (K : Nat) (w : World) (v : Value) (n : Nat) : Prop :=
  ∃ a cap, v = .slice a n cap ∧ n ≤ cap ∧ cap ≤ maxLen ∧ (a = none → cap = 0) ∧
    ∀ i, i < n → ∃ b o, a = some ⟨b, o, none⟩ ∧ b < K ∧ ∀ j, j < c → w.cell? ⟨b, o + (i * c + j), none⟩ = some (f i j)

section
variable {c : Nat} {f g : Nat → Nat → Value} {K K' B : Nat} {w w' : World} {v : Value} {n : Nat}
theorem RowsV.cases (h : RowsV c f K w v n) :
    (∃ a cap, v = .slice a 0 cap ∧ n = 0 ∧ cap ≤ maxLen ∧ (a = none → cap = 0)) ∨
    (∃ b o cap, v = .slice (some ⟨b, o, none⟩) n cap ∧ 0 < n ∧ n ≤ cap ∧ cap ≤ maxLen ∧ b < K ∧
      ∀ i, i < n → ∀ j, j < c → w.cell? ⟨b, o + (i * c + j), none⟩ = some (f i j)) := by
  obtain ⟨a, cap, rfl, hl, hm, hz, hc⟩ := h
  by_cases h0 : n = 0
  · subst h0
    exact .inl ⟨a, cap, rfl, rfl, hm, hz⟩
  · obtain ⟨b, o, rfl, hb, _⟩ := hc 0 (by omega)
    refine .inr ⟨b, o, cap, rfl, by omega, hl, hm, hb, fun i hi => ?_⟩
    obtain ⟨b', o', he, _, hcell⟩ := hc i hi
    simp only [Option.some.injEq, Addr.mk.injEq, and_true] at he
    obtain ⟨rfl, rfl⟩ := he
    exact hcell
theorem RowsV.pos (h : RowsV c f K w v n) (hn : 0 < n) : ∃ b o cap, v = .slice (some ⟨b, o, none⟩) n cap ∧ n ≤ cap ∧ cap ≤ maxLen ∧ b < K ∧
      ∀ i, i < n → ∀ j, j < c → w.cell? ⟨b, o + (i * c + j), none⟩ = some (f i j) := by
  rcases h.cases with ⟨_, _, _, h0, _⟩ | ⟨b, o, cap, h1, _, h2⟩
  · omega
  · exact ⟨b, o, cap, h1, h2⟩
theorem RowsV.mk_cells {b o cap : Nat} (hl : n ≤ cap) (hm : cap ≤ maxLen) (hb : b < K)
    (hc : ∀ i, i < n → ∀ j, j < c → w.cell? ⟨b, o + (i * c + j), none⟩ = some (f i j)) : RowsV c f K w (.slice (some ⟨b, o, none⟩) n cap) n :=
  ⟨_, cap, rfl, hl, hm, (fun h => nomatch h), fun i hi => ⟨b, o, rfl, hb, hc i hi⟩⟩
theorem RowsV.nil (a : Option Addr) (cap : Nat) (hm : cap ≤ maxLen) (hz : a = none → cap = 0) : RowsV c f K w (.slice a 0 cap) 0 :=
  ⟨a, cap, rfl, Nat.zero_le _, hm, hz, fun i hi => absurd hi (by simp)⟩
theorem RowsV.below (h : RowsV c f K w v n) (hb : Below B w w') (hB : K ≤ B) (hK : K ≤ K') : RowsV c f K' w' v n := by
  obtain ⟨a, cap, rfl, hl, hm, hz, hc⟩ := h
  refine ⟨a, cap, rfl, hl, hm, hz, fun i hi => ?_⟩
  obtain ⟨b, o, rfl, hbK, hcell⟩ := hc i hi
  exact ⟨b, o, rfl, by omega, fun j hj => (hb.cell (p := ⟨b, o + (i * c + j), none⟩) (by simp; omega)).trans (hcell j hj)⟩
theorem RowsV.drewN (h : RowsV c f K w v n) (k : Nat) : RowsV c f K (w.drewN k) v n := h
theorem RowsV.drew (h : RowsV c f K w v n) : RowsV c f K w.drew v n := h
theorem RowsV.congr (h : RowsV c f K w v n) (hg : ∀ i, i < n → ∀ j, j < c → f i j = g i j) : RowsV c g K w v n := by
  obtain ⟨a, cap, rfl, hl, hm, hz, hc⟩ := h
  refine ⟨a, cap, rfl, hl, hm, hz, fun i hi => ?_⟩
  obtain ⟨b, o, rfl, hbK, hcell⟩ := hc i hi
  exact ⟨b, o, rfl, hbK, fun j hj => by rw [hcell j hj, hg i hi j hj]⟩
theorem RowsV.form (h : RowsV c f K w v n) : ∃ a cap, v = .slice a n cap ∧ n ≤ cap ∧ cap ≤ maxLen := by
  obtain ⟨a, cap, rfl, hl, hm, _⟩ := h; exact ⟨a, cap, rfl, hl, hm⟩
end

/-- v reads as the strings l. -/
def Strs (K : Nat) (w : World) (v : Value) (l : List Str) : Prop := RowsV 1 (fun i _ => S (l[i]?.getD [])) K w v l.length ∧ ∀ s ∈ l, s.length ≤ maxLen
/-- v reads as the numbers l. -/
def Nats (K : Nat) (w : World) (v : Value) (l : List Nat) : Prop := RowsV 1 (fun i _ => Z (l[i]?.getD 0)) K w v l.length

theorem Strs.below {K K' B : Nat} {w w' : World} {v : Value} {l : List Str} (h : Strs K w v l) (hb : Below B w w') (hB : K ≤ B) (hK : K ≤ K') : Strs K' w' v l := ⟨h.1.below hb hB hK, h.2⟩
theorem Nats.below {K K' B : Nat} {w w' : World} {v : Value} {l : List Nat} (h : Nats K w v l) (hb : Below B w w') (hB : K ≤ B) (hK : K ≤ K') : Nats K' w' v l := RowsV.below h hb hB hK
theorem Strs.pos {K : Nat} {w : World} {v : Value} {l : List Str} (h : Strs K w v l) (hn : 0 < l.length) : ∃ b o cap, v = .slice (some ⟨b, o, none⟩) l.length cap ∧ l.length ≤ cap ∧ cap ≤ maxLen ∧ b < K ∧
    ∀ i, i < l.length → w.cell? ⟨b, o + i, none⟩ = some (S (l[i]?.getD [])) := by
  obtain ⟨b, o, cap, h1, h2, h3, h4, h5⟩ := h.1.pos hn
  exact ⟨b, o, cap, h1, h2, h3, h4, fun i hi => by simpa using h5 i hi 0 (by omega)⟩
theorem Nats.pos {K : Nat} {w : World} {v : Value} {l : List Nat} (h : Nats K w v l) (hn : 0 < l.length) : ∃ b o cap, v = .slice (some ⟨b, o, none⟩) l.length cap ∧ l.length ≤ cap ∧ cap ≤ maxLen ∧ b < K ∧
    ∀ i, i < l.length → w.cell? ⟨b, o + i, none⟩ = some (Z (l[i]?.getD 0)) := by
  obtain ⟨b, o, cap, h1, h2, h3, h4, h5⟩ := RowsV.pos h hn
  exact ⟨b, o, cap, h1, h2, h3, h4, fun i hi => by simpa using h5 i hi 0 (by omega)⟩
theorem Strs.form {K : Nat} {w : World} {v : Value} {l : List Str} (h : Strs K w v l) : ∃ a cap, v = .slice a l.length cap ∧ l.length ≤ cap ∧ cap ≤ maxLen := h.1.form
theorem Nats.form {K : Nat} {w : World} {v : Value} {l : List Nat} (h : Nats K w v l) : ∃ a cap, v = .slice a l.length cap ∧ l.length ≤ cap ∧ cap ≤ maxLen := RowsV.form h
theorem Strs.len {K : Nat} {w : World} {v : Value} {l : List Str} (h : Strs K w v l) {i : Nat} : (l[i]?.getD []).length ≤ maxLen := by
  by_cases hi : i < l.length
  · rw [List.getElem?_eq_getElem hi]; exact h.2 _ (List.getElem_mem _)
  · rw [List.getElem?_eq_none (by omega)]; simp

/-- A slice's value. -/
structure Sl where
  a : Option Addr
  n : Nat
  m : Nat
abbrev Sl.val (s : Sl) : Value := .slice s.a s.n s.m
/-- The nine cells of an expression. -/
structure Xv where
  op : Int
  nm : Str
  kd : Int
  b3 : Bool
  s4 : Sl
  b5 : Bool
  s6 : Sl
  i7 : Int
  s8 : Sl
def Xv.cell (x : Xv) : Nat → Value
  | 0 => .int .u8 x.op
  | 1 => S x.nm
  | 2 => .int .u8 x.kd
  | 3 => .bool x.b3
  | 4 => x.s4.val
  | 5 => .bool x.b5
  | 6 => x.s6.val
  | 7 => .int .i64 x.i7
  | _ => x.s8.val
abbrev Xv.cells (x : Xv) : Array Value := #[.int .u8 x.op, S x.nm, .int .u8 x.kd, .bool x.b3, .slice x.s4.a x.s4.n x.s4.m, .bool x.b5, .slice x.s6.a x.s6.n x.s6.m, .int .i64 x.i7, .slice x.s8.a x.s8.n x.s8.m]
abbrev Xv.agg (x : Xv) : Value := .agg x.cells
/-- The twenty-four cells of a clause. -/
structure Cv where
  nm : Str
  lb : Str
  fr : Int
  to : Int
  kn : Int
  off : Bool
  wh : Xv
  th : Xv
def Cv.cell (x : Cv) : Nat → Value
  | 0 => S x.nm
  | 1 => S x.lb
  | 2 => .int .i64 x.fr
  | 3 => .int .i64 x.to
  | 4 => .int .i64 x.kn
  | 5 => .bool x.off
  | 6 => x.wh.cell 0
  | 7 => x.wh.cell 1
  | 8 => x.wh.cell 2
  | 9 => x.wh.cell 3
  | 10 => x.wh.cell 4
  | 11 => x.wh.cell 5
  | 12 => x.wh.cell 6
  | 13 => x.wh.cell 7
  | 14 => x.wh.cell 8
  | 15 => x.th.cell 0
  | 16 => x.th.cell 1
  | 17 => x.th.cell 2
  | 18 => x.th.cell 3
  | 19 => x.th.cell 4
  | 20 => x.th.cell 5
  | 21 => x.th.cell 6
  | 22 => x.th.cell 7
  | _ => x.th.cell 8
/-- They as a list, kept shut. -/
def Cv.cl (x : Cv) : List Value := (List.range 24).map x.cell
theorem Cv.cl_length (x : Cv) : x.cl.length = 24 := by simp [Cv.cl]
theorem Cv.cl_at (x : Cv) {j : Nat} (hj : j < 24) : x.cl[j]? = some (x.cell j) := by simp [Cv.cl, hj]
theorem Cv.cl_one (x : Cv) : ∀ v ∈ x.cl, v.oneCell' = true := by
  intro v hv
  simp only [Cv.cl, List.mem_map, List.mem_range] at hv
  obtain ⟨j, hj, rfl⟩ := hv
  match j, hj with
  | 0, _ => rfl
  | 1, _ => rfl
  | 2, _ => rfl
  | 3, _ => rfl
  | 4, _ => rfl
  | 5, _ => rfl
  | 6, _ => rfl
  | 7, _ => rfl
  | 8, _ => rfl
  | 9, _ => rfl
  | 10, _ => rfl
  | 11, _ => rfl
  | 12, _ => rfl
  | 13, _ => rfl
  | 14, _ => rfl
  | 15, _ => rfl
  | 16, _ => rfl
  | 17, _ => rfl
  | 18, _ => rfl
  | 19, _ => rfl
  | 20, _ => rfl
  | 21, _ => rfl
  | 22, _ => rfl
  | 23, _ => rfl
  | n + 24, h => exact absurd h (by omega)
theorem Cv.wh_at (x : Cv) {j : Nat} (hj : j < 9) : x.cl[6 + j]? = some (x.wh.cell j) := by
  rw [x.cl_at (by omega)]
  match j, hj with
  | 0, _ => rfl
  | 1, _ => rfl
  | 2, _ => rfl
  | 3, _ => rfl
  | 4, _ => rfl
  | 5, _ => rfl
  | 6, _ => rfl
  | 7, _ => rfl
  | 8, _ => rfl
theorem Cv.th_at (x : Cv) {j : Nat} (hj : j < 9) : x.cl[15 + j]? = some (x.th.cell j) := by
  rw [x.cl_at (by omega)]
  match j, hj with
  | 0, _ => rfl
  | 1, _ => rfl
  | 2, _ => rfl
  | 3, _ => rfl
  | 4, _ => rfl
  | 5, _ => rfl
  | 6, _ => rfl
  | 7, _ => rfl
  | 8, _ => rfl
theorem Xv.cells_at (x : Xv) {j : Nat} (hj : j < 9) : x.cells.toList[j]? = some (x.cell j) := by
  match j, hj with
  | 0, _ => rfl
  | 1, _ => rfl
  | 2, _ => rfl
  | 3, _ => rfl
  | 4, _ => rfl
  | 5, _ => rfl
  | 6, _ => rfl
  | 7, _ => rfl
  | 8, _ => rfl

mutual
/-- The cells are those of an expression. -/
def ExX (K : Nat) (w : World) : Ex → Xv → Prop
  | .mk op nm es, x => x.op = op ∧ x.nm = nm ∧ nm.length ≤ maxLen ∧ ∃ g : Nat → Xv, RowsV 9 (fun i j => (g i).cell j) K w x.s8.val es.length ∧ ExsX K w es g 0
def ExsX (K : Nat) (w : World) : List Ex → (Nat → Xv) → Nat → Prop
  | [], _, _ => True
  | e :: r, g, i => ExX K w e (g i) ∧ ExsX K w r g (i + 1)
end

theorem exsX_iff {K : Nat} {w : World} {es : List Ex} {g : Nat → Xv} : ∀ {i : Nat}, ExsX K w es g i ↔ ∀ (j : Nat) (e : Ex), es[j]? = some e → ExX K w e (g (i + j)) := by
  induction es with
  | nil => intro i; simp [ExsX]
  | cons e r ih =>
    intro i
    rw [ExsX, ih]
    constructor
    · rintro ⟨h1, h2⟩ j e' hj
      cases j with
      | zero => simp at hj; subst hj; simpa using h1
      | succ j => have := h2 j e' (by simpa using hj); rwa [show i + 1 + j = i + (j + 1) by omega] at this
    · intro h
      refine ⟨by simpa using h 0 e rfl, fun j e' hj => ?_⟩
      have := h (j + 1) e' (by simpa using hj)
      rwa [show i + (j + 1) = i + 1 + j by omega] at this

/-- How many parts an expression has: the walks' measure. -/
def Ex.parts (e : Ex) : Nat := e.pre.length
theorem parts_arg : ∀ {es : List Ex} {e : Ex}, e ∈ es → e.parts ≤ (preL es).length := by
  intro es
  induction es with
  | nil => simp
  | cons x r ih =>
    intro e h
    rw [preL, List.length_append]
    rcases List.mem_cons.1 h with rfl | h
    · unfold Ex.parts; omega
    · have := ih h; omega
theorem parts_mk (o : Int) (n : Str) (es : List Ex) : (Ex.mk o n es).parts = (preL es).length + 1 := by simp [Ex.parts, Ex.pre]

theorem exX_below {K K' B : Nat} {w w' : World} (hb : Below B w w') (hB : K ≤ B) (hK : K ≤ K') : ∀ (m : Nat) (e : Ex) (x : Xv), e.parts ≤ m → ExX K w e x → ExX K' w' e x := by
  intro m
  induction m with
  | zero => intro e c hm; cases e; rw [parts_mk] at hm; omega
  | succ m ih =>
    intro e c hm h
    cases e with
    | mk op nm es =>
      rw [ExX] at h ⊢
      obtain ⟨h1, h2, h3, g, h5, h6⟩ := h
      refine ⟨h1, h2, h3, g, h5.below hb hB hK, exsX_iff.2 fun j e hj => ?_⟩
      have hp := parts_arg (List.mem_of_getElem? hj)
      rw [parts_mk] at hm
      exact ih e _ (by omega) (exsX_iff.1 h6 j e hj)
theorem ExX.below {K K' B : Nat} {w w' : World} {e : Ex} {x : Xv} (h : ExX K w e x) (hb : Below B w w') (hB : K ≤ B) (hK : K ≤ K') : ExX K' w' e x := exX_below hb hB hK _ e x (Nat.le_refl _) h
theorem ExX.nm {K : Nat} {w : World} {e : Ex} {x : Xv} (h : ExX K w e x) : x.nm.length ≤ maxLen := by
  cases e; rw [ExX] at h; obtain ⟨_, h2, h3, _⟩ := h; rw [h2]; exact h3

/-- v reads as the definitions l. -/
def Defs (K : Nat) (w : World) (v : Value) (l : List (Str × Bool)) : Prop :=
  ∃ g, RowsV 3 g K w v l.length ∧ ∀ i, i < l.length → g i 0 = S (l[i]?.getD ([], false)).1 ∧ (l[i]?.getD ([], false)).1.length ≤ maxLen ∧ (∃ k, g i 1 = .int .u8 k) ∧ g i 2 = .bool (l[i]?.getD ([], false)).2

/-- The cells are those of a clause. -/
def ClX (K : Nat) (w : World) (x : Cl) (c : Cv) : Prop := c.nm = x.nm ∧ x.nm.length ≤ maxLen ∧ ExX K w x.wh c.wh ∧ ExX K w x.th c.th
theorem ClX.below {K K' B : Nat} {w w' : World} {x : Cl} {c : Cv} (h : ClX K w x c) (hb : Below B w w') (hB : K ≤ B) (hK : K ≤ K') : ClX K' w' x c := by
  obtain ⟨h1, h2, h3, h4⟩ := h
  exact ⟨h1, h2, h3.below hb hB hK, h4.below hb hB hK⟩
instance : Inhabited Ex := ⟨.mk 0 [] []⟩
instance : Inhabited Cl := ⟨⟨[], default, default⟩⟩
/-- v reads as the clauses l. -/
def Cls (K : Nat) (w : World) (v : Value) (l : List Cl) : Prop :=
  ∃ g : Nat → Cv, RowsV 24 (fun i j => (g i).cell j) K w v l.length ∧ ∀ (i : Nat) (x : Cl), l[i]? = some x → ClX K w x (g i)

theorem Defs.below {K K' B : Nat} {w w' : World} {v : Value} {l : List (Str × Bool)} (h : Defs K w v l) (hb : Below B w w') (hB : K ≤ B) (hK : K ≤ K') : Defs K' w' v l := by
  obtain ⟨g, h1, h2⟩ := h; exact ⟨g, h1.below hb hB hK, h2⟩
theorem Cls.below {K K' B : Nat} {w w' : World} {v : Value} {l : List Cl} (h : Cls K w v l) (hb : Below B w w') (hB : K ≤ B) (hK : K ≤ K') : Cls K' w' v l := by
  obtain ⟨g, h1, h2⟩ := h; exact ⟨g, h1.below hb hB hK, fun i x hx => (h2 i x hx).below hb hB hK⟩

/-- The nine cells of row k of a slice of expressions. -/
theorem ex_cells {g : Nat → Xv} {w : World} {b o k n : Nat} (hc : ∀ i, i < n → ∀ j, j < 9 → w.cell? ⟨b, o + (i * 9 + j), none⟩ = some ((g i).cell j)) (hk : k < n) :
    w.cell? ⟨b, o + k * 9, none⟩ = some (.int .u8 (g k).op) ∧ w.cell? ⟨b, o + k * 9 + 1, none⟩ = some (S (g k).nm) ∧ w.cell? ⟨b, o + k * 9 + 2, none⟩ = some (.int .u8 (g k).kd) ∧
    w.cell? ⟨b, o + k * 9 + 3, none⟩ = some (.bool (g k).b3) ∧ w.cell? ⟨b, o + k * 9 + 4, none⟩ = some (g k).s4.val ∧ w.cell? ⟨b, o + k * 9 + 5, none⟩ = some (.bool (g k).b5) ∧
    w.cell? ⟨b, o + k * 9 + 6, none⟩ = some (g k).s6.val ∧ w.cell? ⟨b, o + k * 9 + 7, none⟩ = some (.int .i64 (g k).i7) ∧ w.cell? ⟨b, o + k * 9 + 8, none⟩ = some (g k).s8.val := by
  have h := hc k hk
  exact ⟨h 0 (by omega), h 1 (by omega), h 2 (by omega), h 3 (by omega), h 4 (by omega), h 5 (by omega), h 6 (by omega), h 7 (by omega), h 8 (by omega)⟩
theorem cells_below {f : Nat → Nat → Value} {B b o n c : Nat} {w w' : World} (hb : Below B w w') (hB : b < B) (hc : ∀ i, i < n → ∀ j, j < c → w.cell? ⟨b, o + (i * c + j), none⟩ = some (f i j)) :
    ∀ i, i < n → ∀ j, j < c → w'.cell? ⟨b, o + (i * c + j), none⟩ = some (f i j) := fun i hi j hj => (hb.cell (p := ⟨b, o + (i * c + j), none⟩) hB).trans (hc i hi j hj)

/-- The parts of a plan's value read as p. -/
def PlanIs (K : Nat) (w : World) (vd vc : Value) (p : Pl) : Prop := Defs K w vd p.defs ∧ Cls K w vc p.cls
theorem PlanIs.below {K K' B : Nat} {w w' : World} {vd vc : Value} {p : Pl} (h : PlanIs K w vd vc p) (hb : Below B w w') (hB : K ≤ B) (hK : K ≤ K') : PlanIs K' w' vd vc p := ⟨h.1.below hb hB hK, h.2.below hb hB hK⟩

/-! ### rows that a call owns -/
def OwnS (base : Nat) (w : World) (v : Value) (l : List Str) : Prop := w.ownsRow base 9 1 v l.length (l.map S) ∧ ∀ s ∈ l, s.length ≤ maxLen
def OwnN (base : Nat) (w : World) (v : Value) (l : List Nat) : Prop := w.ownsRow base 3 1 v l.length (l.map Z)

theorem ownsRow_cells {w : World} {base e size n : Nat} {v : Value} {xs : List Value} (h : w.ownsRow base e size v n xs) {r : Nat} (hr : v.ownBlock = some r) : base ≤ r ∧ ∃ o, w.heap[r]? = some o ∧ o.isCells = true := by
  rcases h.2 with ⟨rfl, _⟩ | ⟨g, cap, cur, rfl, hb, hg, _⟩
  · simp [Value.ownBlock] at hr
  · simp [Value.ownBlock] at hr; subst hr; exact ⟨hb, _, hg, rfl⟩
theorem ownsRow_old {w w' : World} {base e size n B : Nat} {v : Value} {xs : List Value} (h : w.ownsRow base e size v n xs) (hb : Below B w w') (hB : w.heap.size ≤ B) : w'.ownsRow base e size v n xs := by
  refine ⟨h.1, ?_⟩
  rcases h.2 with hn | ⟨g, cap, cur, rfl, hbg, hg, rest⟩
  · exact .inl hn
  · have := (Array.getElem?_eq_some_iff.1 hg).1
    exact .inr ⟨g, cap, cur, rfl, hbg, (hb.block g (by omega)).trans hg, rest⟩
theorem ownsRow_at {w w' : World} {base e z n : Nat} {v : Value} {xs : List Value} (h : w.ownsRow base e z v n xs) (hk : ∀ g, v.ownBlock = some g → w'.heap[g]? = w.heap[g]?) : w'.ownsRow base e z v n xs := by
  refine ⟨h.1, ?_⟩
  rcases h.2 with hn | ⟨g, cap, cur, rfl, hbg, hg, rest⟩
  · exact .inl hn
  · exact .inr ⟨g, cap, cur, rfl, hbg, (hk g rfl).trans hg, rest⟩
theorem ownsRow_mono {w : World} {base base' e size n : Nat} {v : Value} {xs : List Value} (h : w.ownsRow base e size v n xs) (hb : base' ≤ base) : w.ownsRow base' e size v n xs := by
  refine ⟨h.1, ?_⟩
  rcases h.2 with hn | ⟨g, cap, cur, rfl, hbg, rest⟩
  · exact .inl hn
  · exact .inr ⟨g, cap, cur, rfl, by omega, rest⟩
theorem ownsRow_lt {w : World} {base e size n : Nat} {v : Value} {xs : List Value} (h : w.ownsRow base e size v n xs) {r : Nat} (hr : v.ownBlock = some r) : r < w.heap.size := by
  obtain ⟨o, ho, _⟩ := (ownsRow_cells h hr).2
  exact (Array.getElem?_eq_some_iff.1 ho).1
theorem ownsRow_rows {w : World} {base e n : Nat} {v : Value} {xs : List Value} (h : w.ownsRow base e 1 v n xs) (hx : xs.length = n) : RowsV 1 (fun i _ => xs[i]?.getD undef) w.heap.size w v n := by
  rcases h.2 with ⟨rfl, h0⟩ | ⟨g, cap, cur, rfl, hb, hg, hn, hm, hs, ht⟩
  · subst h0
    exact RowsV.nil none 0 (by simp [maxLen]) (fun _ => rfl)
  · refine RowsV.mk_cells hn hm (Array.getElem?_eq_some_iff.1 hg).1 fun i hi j hj => ?_
    obtain rfl : j = 0 := by omega
    have := World.ownsRow.cells h (g := g) rfl i (xs[i]?.getD undef) (by rw [List.getElem?_eq_getElem (by omega)]; rfl)
    rw [Addr.add] at this
    by_cases h0 : i = 0
    · subst h0; simpa using this
    · simpa [h0] using this
theorem OwnS.strs {base : Nat} {w : World} {v : Value} {l : List Str} (h : OwnS base w v l) : Strs w.heap.size w v l :=
  ⟨(ownsRow_rows h.1 (by simp)).congr fun i hi j _ => by simp [hi], h.2⟩
theorem OwnN.nats {base : Nat} {w : World} {v : Value} {l : List Nat} (h : OwnN base w v l) : Nats w.heap.size w v l :=
  (ownsRow_rows h (by simp)).congr fun i hi j _ => by simp [hi]
theorem OwnS.nil (base : Nat) (w : World) : OwnS base w (.slice none 0 0) [] := ⟨World.ownsRow_nil w base 9 1, by simp⟩
theorem OwnN.nil (base : Nat) (w : World) : OwnN base w (.slice none 0 0) [] := World.ownsRow_nil w base 3 1
theorem OwnS.old {base B : Nat} {w w' : World} {v : Value} {l : List Str} (h : OwnS base w v l) (hb : Below B w w') (hB : w.heap.size ≤ B) : OwnS base w' v l := ⟨ownsRow_old h.1 hb hB, h.2⟩
theorem OwnN.old {base B : Nat} {w w' : World} {v : Value} {l : List Nat} (h : OwnN base w v l) (hb : Below B w w') (hB : w.heap.size ≤ B) : OwnN base w' v l := ownsRow_old h hb hB
theorem OwnS.kept {base : Nat} {w w' : World} {v : Value} {l : List Str} {row : Option Nat} (h : OwnS base w v l) (hg : w.grownBy w' row) (hne : v.ownBlock = none ∨ v.ownBlock ≠ row) : OwnS base w' v l := ⟨World.ownsRow.kept h.1 hg hne, h.2⟩
theorem OwnN.kept {base : Nat} {w w' : World} {v : Value} {l : List Nat} {row : Option Nat} (h : OwnN base w v l) (hg : w.grownBy w' row) (hne : v.ownBlock = none ∨ v.ownBlock ≠ row) : OwnN base w' v l := World.ownsRow.kept h hg hne
theorem OwnS.mono {base base' : Nat} {w : World} {v : Value} {l : List Str} (h : OwnS base w v l) (hb : base' ≤ base) : OwnS base' w v l := ⟨ownsRow_mono h.1 hb, h.2⟩
theorem OwnN.mono {base base' : Nat} {w : World} {v : Value} {l : List Nat} (h : OwnN base w v l) (hb : base' ≤ base) : OwnN base' w v l := ownsRow_mono h hb
theorem Tryz.infoStr : (Tryz.prog.info? 9).map (fun i => (i.zero, i.size, i.bytes)) = some (some (.string ⟨#[]⟩), 1, 16) := by kernel_rfl
theorem Tryz.infoI : (Tryz.prog.info? 3).map (fun i => (i.zero, i.size, i.bytes)) = some (some (.int .i64 0), 1, 8) := by kernel_rfl

theorem ownsRow_form {w : World} {base e size n : Nat} {v : Value} {xs : List Value} (h : w.ownsRow base e size v n xs) : ∃ a c, v = .slice a n c ∧ n ≤ c ∧ c ≤ maxLen := by
  rcases h.2 with ⟨rfl, h0⟩ | ⟨g, cap, cur, rfl, _, _, h1, h2, _⟩
  · exact ⟨none, 0, by rw [h0], by omega, by simp [maxLen]⟩
  · exact ⟨_, cap, rfl, h1, h2⟩
theorem OwnS.form {base : Nat} {w : World} {v : Value} {l : List Str} (h : OwnS base w v l) : ∃ a c, v = .slice a l.length c ∧ l.length ≤ c ∧ c ≤ maxLen := ownsRow_form h.1
theorem OwnN.form {base : Nat} {w : World} {v : Value} {l : List Nat} (h : OwnN base w v l) : ∃ a c, v = .slice a l.length c ∧ l.length ≤ c ∧ c ≤ maxLen := ownsRow_form h

theorem wpList_append_N {w : World} {ops : Array Oper} {rest : List Oper} {o : Oper} {a : Act} {Q : Exit → Act → World → Prop} (hgd : o.guard = none) (s x : Operand)
    (ho : o.op = .call { callee := .builtin .append, args := #[s, x], argTypes := #[43, 43] })
    {base : Nat} {v : Value} {zs : List Nat} {B c : Nat} {z : Nat} (hs : a.eval s = v) (hx : a.eval x = .slice (some ⟨B, 0, none⟩) 1 c) (hown : OwnN base w v zs) (hb : w.cell? ⟨B, 0, none⟩ = some (Z z))
    (h63 : zs.length + 1 ≤ 2 ^ 40) (hbase : base ≤ w.heap.size)
    (h : ∀ g cap w', OwnN base w' (.slice (some ⟨g, 0, none⟩) (zs.length + 1) cap) (zs ++ [z]) → w.grownBy w' v.ownBlock → (v.ownBlock = some g ∨ g = w.heap.size) → wpList Tryz.prog ops Q rest (a.put o.dst (.slice (some ⟨g, 0, none⟩) (zs.length + 1) cap)) w') : wpList Tryz.prog ops Q (o :: rest) a w := by
  obtain ⟨i0, hi, hz0, hz1, hz2⟩ := info_parts Tryz.infoI
  refine wpList_append_lies w hgd s x 43 ho base 3 i0 _ 1 8 Tryz.underlying43 hi hz0 hz1 hz2 rfl (by decide) v zs.length (zs.map Z) hs hown ⟨B, 0, none⟩ 1 c [Z z] hx rfl
    (fun j u hj => by
      match j, hj with
      | 0, hj =>
        simp only [List.getElem?_cons_zero, Option.some.injEq] at hj
        subst hj
        simpa [Addr.add] using hb)
    (by simp [Value.oneCell']) (by decide) (by simp [maxLen]; omega) (by omega) hbase _ rfl fun g cap w' h1 h2 h3 h4 => h g cap w' ?_ h2 h3
  unfold OwnN
  rw [List.length_append, List.map_append]
  exact h1

/-! ### blocks -/
/-- A block that is known whole. -/
def Blk (w : World) (b : Nat) (cs : Array Value) (t : TypeId) : Prop := w.heap[b]? = some (.cells cs t (0, 0))
theorem Blk.new (w : World) (cs : Array Value) (t : TypeId) : Blk (w.alloc (.cells cs t)) w.heap.size cs t := World.alloc_heap_new w _
theorem Blk.lt {w : World} {b t : Nat} {cs : Array Value} (h : Blk w b cs t) : b < w.heap.size := (Array.getElem?_eq_some_iff.1 h).1
theorem Blk.alloc {w : World} {b t : Nat} {cs : Array Value} (h : Blk w b cs t) (o : Obj) : Blk (w.alloc o) b cs t := (Below.heap_alloc _ _ _ h.lt).trans h
theorem Blk.below {w w' : World} {B b t : Nat} {cs : Array Value} (h : Blk w b cs t) (hb : Below B w w') (hlt : b < B) : Blk w' b cs t := (hb.block b hlt).trans h
theorem Blk.kept {w w' : World} {b t : Nat} {cs : Array Value} {row : Option Nat} (h : Blk w b cs t) (hg : w.grownBy w' row) (hne : some b ≠ row) : Blk w' b cs t := (hg.block b h.lt hne).trans h
theorem Blk.set {w : World} {b t i : Nat} {cs : Array Value} (h : Blk w b cs t) (x : Value) : Blk (w.setCell ⟨b, i, none⟩ x) b (cs.setIfInBounds i x) t := by
  unfold Blk at *
  simp [World.setCell, Array.getElem?_modify, h]
theorem Blk.other {w : World} {b b' t i : Nat} {cs : Array Value} (h : Blk w b cs t) (hne : b ≠ b') (x : Value) : Blk (w.setCell ⟨b', i, none⟩ x) b cs t := (Below.heap_setCell _ _ _ _ (by simpa using hne)).trans h
theorem Blk.at {w : World} {b t i : Nat} {cs : Array Value} {x : Value} (h : Blk w b cs t) (hi : cs[i]? = some x) : w.cell? ⟨b, i, none⟩ = some x := by
  unfold Blk at h; simp [World.cell?, h, hi]
theorem Blk.free {w : World} {b t : Nat} {cs : Array Value} (h : Blk w b cs t) (i : Nat) : w.frozen? ⟨b, i, none⟩ = false := by
  unfold Blk at h; simp [World.frozen?, h]
theorem Blk.one {w : World} {b t : Nat} {x : Value} (h : Blk w b #[x] t) : w.cell? ⟨b, 0, none⟩ = some x ∧ w.frozen? ⟨b, 0, none⟩ = false := ⟨h.at rfl, h.free 0⟩
theorem Blk.two {w : World} {b t : Nat} {x y : Value} (h : Blk w b #[x, y] t) : w.cell? ⟨b, 0, none⟩ = some x ∧ w.cell? ⟨b, 1, none⟩ = some y := ⟨h.at rfl, h.at rfl⟩
theorem Blk.four {w : World} {b t : Nat} {x y z u : Value} (h : Blk w b #[x, y, z, u] t) : w.cell? ⟨b, 0, none⟩ = some x ∧ w.cell? ⟨b, 1, none⟩ = some y ∧ w.cell? ⟨b, 2, none⟩ = some z ∧ w.cell? ⟨b, 3, none⟩ = some u := ⟨h.at rfl, h.at rfl, h.at rfl, h.at rfl⟩
theorem Blk.nine {w : World} {b t : Nat} {x0 x1 x2 x3 x4 x5 x6 x7 x8 : Value} (h : Blk w b #[x0, x1, x2, x3, x4, x5, x6, x7, x8] t) : w.cell? ⟨b, 0, none⟩ = some x0 ∧ w.cell? ⟨b, 1, none⟩ = some x1 ∧ w.cell? ⟨b, 2, none⟩ = some x2 ∧
    w.cell? ⟨b, 3, none⟩ = some x3 ∧ w.cell? ⟨b, 4, none⟩ = some x4 ∧ w.cell? ⟨b, 5, none⟩ = some x5 ∧ w.cell? ⟨b, 6, none⟩ = some x6 ∧ w.cell? ⟨b, 7, none⟩ = some x7 ∧ w.cell? ⟨b, 8, none⟩ = some x8 :=
  ⟨h.at rfl, h.at rfl, h.at rfl, h.at rfl, h.at rfl, h.at rfl, h.at rfl, h.at rfl, h.at rfl⟩

theorem grownBy_setCell (w : World) (R i : Nat) (x : Value) : w.grownBy (w.setCell ⟨R, i, none⟩ x) (some R) :=
  ⟨rfl, rfl, rfl, by simp [World.setCell], fun k _ hk => Below.heap_setCell _ _ _ _ (fun e => hk (by simp at e; rw [e]))⟩
theorem ret_bool {a b : Bool} (h : a = b) : Ending.returned (.bool a) = .returned (.bool b) := by rw [h]
theorem ret_int {k : IntKind} {a b : Int} (h : a = b) : Ending.returned (.int k a) = .returned (.int k b) := by rw [h]
theorem below_drewN2 {B : Nat} {a w : World} (h : Below B a w) (n : Nat) : Below B a (w.drewN n) := h.trans ⟨rfl, rfl, rfl, Nat.le_refl _, fun _ _ => rfl⟩
theorem below_grown {B : Nat} {W W' : World} {row : Option Nat} (hg : W.grownBy W' row) (hr : ∀ k, row = some k → B ≤ k) (hB : B ≤ W.heap.size) : Below B W W' := (Below.refl B W).grown hg hB hr
/-- A contract that leaves the world alone, inside a region that draws its order. -/
theorem quiet_eq {P : Program} {f : FuncId} {args : Array Value} {w : World} {n : Nat} {v : Value}
    (h : Calls P f args (w.drewN n) fun e w' => e = .returned v ∧ w.drewN n = w') : Calls P f args (w.drewN n) fun e w'' => e = .returned v ∧ ∃ m, w'' = w.drewN m :=
  Calls.quiet_of_same (h.mono fun _ _ ⟨he, hw⟩ => ⟨he, hw.symm⟩)
end Go.Proofs.YthooiobhlbnaoaaGreat
