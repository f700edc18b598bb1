/- Layer 15 in plain Lean: expressions, plans, what the functions compute. No conditions. -/
namespace Go.Proofs.YthooiobhlbnaoaaGreat
set_option linter.unusedVariables false

abbrev Str := List UInt8

/-- An expression, as far as the layer looks at it. -/
inductive Ex where
  | mk (op : Int) (nm : Str) (args : List Ex)
def Ex.op : Ex → Int | .mk o _ _ => o
def Ex.nm : Ex → Str | .mk _ n _ => n
def Ex.args : Ex → List Ex | .mk _ _ es => es

mutual
/-- The parts, each ahead of its own parts. -/
def Ex.pre : Ex → List (Int × Str)
  | .mk o n es => (o, n) :: preL es
def preL : List Ex → List (Int × Str)
  | [] => []
  | e :: r => e.pre ++ preL r
end

/-- A name goes to the end of a list, unless it is there. -/
def addS {α : Type} [BEq α] (l : List α) (s : α) : List α := if l.contains s then l else l ++ [s]
def dedup {α : Type} [BEq α] (l : List α) : List α := l.foldl addS []

def isRef (p : Int × Str) : Bool := p.1 == 5
def refL (l : List (Int × Str)) : List Str := (l.filter isRef).map (·.2)
/-- The names to which an expression refers. -/
def refs (e : Ex) : List Str := dedup (refL e.pre)

structure Cl where
  nm : Str
  wh : Ex
  th : Ex
structure Pl where
  defs : List (Str × Bool)
  cls : List Cl

def defL (l : List (Str × Bool)) : List Str := (l.filter fun d => !d.2).map (·.1)
/-- The defined names of a plan. -/
def names (p : Pl) : List Str := dedup (defL p.defs)
def hits (c : Cl) (s : Str) : Bool := (refs c.wh).contains s || (refs c.th).contains s
/-- A name depends directly on another one. -/
def direct (p : Pl) (a b : Str) : Bool := p.cls.any fun c => c.nm == a && hits c b
/-- The numbers of the names on which a name depends directly. -/
def deps (p : Pl) (a : Str) : List Nat := (List.range (names p).length).filter fun i => direct p a ((names p)[i]?.getD [])
def named (ns : List Str) (l : List Nat) : List Str := l.map fun i => ns[i]?.getD []
def depends (p : Pl) (a : Str) : List Str := named (names p) (deps p a)
/-- The graph of the names' numbers. -/
def gD (p : Pl) (i : Nat) : List Nat := deps p ((names p)[i]?.getD [])

/-- A number can be taken. -/
def rdy (D : Nat → List Nat) (out : List Nat) (i : Nat) : Bool := !out.contains i && (D i).all fun d => out.contains d
def nextT (n : Nat) (D : Nat → List Nat) (out : List Nat) : Option Nat := (List.range n).find? (rdy D out)
def takeT (n : Nat) (D : Nat → List Nat) : Nat → List Nat → List Nat
  | 0, out => out
  | k + 1, out => match nextT n D out with
    | none => out
    | some i => takeT n D k (out ++ [i])
/-- The numbers that are taken, in order. -/
def taken (n : Nat) (D : Nat → List Nat) : List Nat := takeT n D n []
def takenP (p : Pl) : List Nat := taken (names p).length (gD p)
/-- There is an order. -/
def ordB (p : Pl) : Bool := decide (¬ (takenP p).length < (names p).length)
def orderL (p : Pl) : List Str := if ordB p then named (names p) (takenP p) else []
def orderE (p : Pl) : Int := if ordB p then 0 else 150

def firstU (D : Nat → List Nat) (T : List Nat) (i : Nat) : Nat := ((D i).find? fun d => !T.contains d).getD 0
def walkC (f : Nat → Nat) : Nat → List Nat → Nat → List Nat
  | 0, _, _ => []
  | k + 1, way, i => if way.contains i then way.drop (way.idxOf i) else walkC f k (way ++ [i]) (f i)
def cycleN (n : Nat) (D : Nat → List Nat) : List Nat := match (List.range n).find? fun i => !(taken n D).contains i with
  | none => []
  | some i => walkC (firstU D (taken n D)) (n + 1) [] i
def cycle (p : Pl) : List Str := named (names p) (cycleN (names p).length (gD p))

/-- What is reached from some numbers. -/
inductive Rch (D : Nat → List Nat) (s : List Nat) : Nat → Prop
  | base {j : Nat} : j ∈ s → Rch D s j
  | step {i j : Nat} : Rch D s i → j ∈ D i → Rch D s j
open Classical in
noncomputable def reachN (n : Nat) (D : Nat → List Nat) (s : List Nat) : List Nat := (List.range n).filter fun j => decide (Rch D s j)
noncomputable def reach (p : Pl) (a : Str) : List Str := named (names p) (reachN (names p).length (gD p) (deps p a))

/-! ### plain facts -/
theorem dedup_length_le {α : Type} [BEq α] (l : List α) : (dedup l).length ≤ l.length := by
  suffices h : ∀ (l acc : List α), (l.foldl addS acc).length ≤ acc.length + l.length by simpa [dedup] using h l []
  intro l
  induction l with
  | nil => simp
  | cons s r ih =>
    intro acc
    have h1 := ih (addS acc s)
    have h2 : (addS acc s).length ≤ acc.length + 1 := by unfold addS; split <;> simp
    simp only [List.foldl_cons, List.length_cons]; omega
theorem dedup_snoc {α : Type} [BEq α] (l : List α) (s : α) : dedup (l ++ [s]) = addS (dedup l) s := by unfold dedup; rw [List.foldl_append]; rfl
theorem dedup_append {α : Type} [BEq α] (l m : List α) : dedup (l ++ m) = m.foldl addS (dedup l) := by unfold dedup; rw [List.foldl_append]
section
variable {α : Type} [BEq α] [LawfulBEq α]
theorem mem_addS {l : List α} {s x : α} : x ∈ addS l s ↔ x ∈ l ∨ x = s := by
  unfold addS; split
  · rename_i h; rw [List.contains_iff_mem] at h
    exact ⟨.inl, fun h' => h'.elim id fun e => e ▸ h⟩
  · simp
theorem nodup_addS {l : List α} {s : α} (h : l.Nodup) : (addS l s).Nodup := by
  unfold addS; split
  · exact h
  · rename_i h'; rw [List.contains_iff_mem] at h'
    rw [List.nodup_append]; exact ⟨h, by simp, fun a ha b hb e => by simp at hb; subst hb; subst e; exact h' ha⟩
theorem mem_foldl_addS {l acc : List α} {x : α} : x ∈ l.foldl addS acc ↔ x ∈ acc ∨ x ∈ l := by
  induction l generalizing acc with
  | nil => simp
  | cons s r ih => rw [List.foldl_cons, ih, mem_addS]; simp [or_assoc]
theorem nodup_foldl_addS {l acc : List α} (h : acc.Nodup) : (l.foldl addS acc).Nodup := by
  induction l generalizing acc with
  | nil => exact h
  | cons s r ih => exact ih (nodup_addS h)
theorem mem_dedup {l : List α} {x : α} : x ∈ dedup l ↔ x ∈ l := by unfold dedup; rw [mem_foldl_addS]; simp
theorem nodup_dedup (l : List α) : (dedup l).Nodup := nodup_foldl_addS List.nodup_nil
theorem addS_in {l : List α} {s : α} (h : s ∈ l) : addS l s = l := by unfold addS; rw [if_pos (List.contains_iff_mem.2 h)]
theorem addS_out {l : List α} {s : α} (h : s ∉ l) : addS l s = l ++ [s] := by unfold addS; rw [if_neg (fun h' => h (List.contains_iff_mem.1 h'))]
theorem foldl_addS_addS (l acc : List α) (s : α) (m : List α) : (addS l s).foldl addS acc ++ m = (l ++ [s]).foldl addS acc ++ m := by
  by_cases h : s ∈ l
  · rw [addS_in h, List.foldl_append]; simp only [List.foldl_cons, List.foldl_nil]
    rw [addS_in (mem_foldl_addS.2 (.inr h))]
  · rw [addS_out h]
theorem foldl_dedup (l acc : List α) : (dedup l).foldl addS acc = l.foldl addS acc := by
  suffices h : ∀ (l d acc : List α), (l.foldl addS d).foldl addS acc = (d ++ l).foldl addS acc by
    have := h l [] acc; simpa [dedup] using this
  intro l
  induction l with
  | nil => intro d acc; simp
  | cons s r ih =>
    intro d acc
    rw [List.foldl_cons, ih, List.foldl_append, List.foldl_append]
    have := foldl_addS_addS d acc s []
    simp only [List.append_nil] at this
    rw [this, List.foldl_append]; rfl
end

theorem preL_append (a b : List Ex) : preL (a ++ b) = preL a ++ preL b := by
  induction a with
  | nil => rfl
  | cons e r ih => simp [preL, ih]
theorem refL_append (a b : List (Int × Str)) : refL (a ++ b) = refL a ++ refL b := by simp [refL]
theorem refL_snoc_ref (a : List (Int × Str)) (s : Str) : refL (a ++ [(5, s)]) = refL a ++ [s] := by simp [refL, isRef]
theorem refL_snoc_no (a : List (Int × Str)) (o : Int) (s : Str) (h : o ≠ 5) : refL (a ++ [(o, s)]) = refL a := by simp [refL, isRef, h]
theorem refL_length (l : List (Int × Str)) : (refL l).length ≤ l.length := by unfold refL; rw [List.length_map]; exact List.length_filter_le _ _
theorem refs_length (e : Ex) : (refs e).length ≤ e.pre.length := Nat.le_trans (dedup_length_le _) (refL_length _)
theorem defL_snoc_no (a : List (Str × Bool)) (s : Str) : defL (a ++ [(s, true)]) = defL a := by simp [defL]
theorem defL_snoc_yes (a : List (Str × Bool)) (s : Str) : defL (a ++ [(s, false)]) = defL a ++ [s] := by simp [defL]
theorem names_length (p : Pl) : (names p).length ≤ p.defs.length := by
  refine Nat.le_trans (dedup_length_le _) ?_
  unfold defL; rw [List.length_map]; exact List.length_filter_le _ _
theorem names_nodup (p : Pl) : (names p).Nodup := nodup_dedup _
end Go.Proofs.YthooiobhlbnaoaaGreat
