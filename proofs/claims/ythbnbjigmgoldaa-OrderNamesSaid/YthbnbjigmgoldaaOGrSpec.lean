/- Layer 15: the graph of the names, in plain Lean: what newGraph collects, sorted and compacted, is what a name depends on. No conditions. -/
import Derived.Test.YthbnbjigmgoldaaOSort
namespace Go.Proofs.Ythbnbjigmgoldaa
set_option linter.unusedVariables false

def numOf (ns : List Str) (r : Str) : Option Nat := if ns.contains r then some (ns.idxOf r) else none
def nums (ns : List Str) (e : Ex) : List Nat := (refs e).filterMap (numOf ns)
def rawC (ns : List Str) (c : Cl) : List Nat := nums ns c.wh ++ nums ns c.th
/-- The numbers that newGraph collects for a name. -/
def rawL (ns : List Str) (cs : List Cl) (s : Str) : List Nat := (cs.filter fun c => c.nm == s).flatMap (rawC ns)
def hasC (cs : List Cl) (s : Str) : Bool := cs.any fun c => c.nm == s

theorem rawL_snoc_same (ns : List Str) (cs : List Cl) (c : Cl) : rawL ns (cs ++ [c]) c.nm = rawL ns cs c.nm ++ rawC ns c := by
  simp [rawL]
theorem rawL_snoc_other (ns : List Str) (cs : List Cl) (c : Cl) (s : Str) (h : s ≠ c.nm) : rawL ns (cs ++ [c]) s = rawL ns cs s := by
  have : (c.nm == s) = false := by rw [beq_eq_false_iff_ne]; exact fun e => h e.symm
  simp [rawL, this]
theorem hasC_snoc (cs : List Cl) (c : Cl) (s : Str) : hasC (cs ++ [c]) s = (hasC cs s || c.nm == s) := by simp [hasC]
theorem rawL_none (ns : List Str) (cs : List Cl) (s : Str) (h : hasC cs s = false) : rawL ns cs s = [] := by
  unfold rawL
  rw [List.filter_eq_nil_iff.2]
  · rfl
  · intro c hc
    unfold hasC at h
    rw [List.any_eq_false] at h
    exact h c hc

theorem mem_nums {ns : List Str} {e : Ex} {i : Nat} (hn : ns.Nodup) : i ∈ nums ns e ↔ i < ns.length ∧ (ns[i]?.getD []) ∈ refs e := by
  unfold nums numOf
  rw [List.mem_filterMap]
  constructor
  · rintro ⟨r, hr, h⟩
    split at h
    · rename_i hc
      rw [List.contains_iff_mem] at hc
      simp only [Option.some.injEq] at h
      subst h
      have hlt := List.idxOf_lt_length_of_mem hc
      refine ⟨hlt, ?_⟩
      rw [List.getElem?_eq_getElem hlt, Option.getD_some, List.getElem_idxOf]
      exact hr
    · cases h
  · rintro ⟨hi, hr⟩
    refine ⟨_, hr, ?_⟩
    rw [List.getElem?_eq_getElem hi, Option.getD_some, if_pos (List.contains_iff_mem.2 (List.getElem_mem hi))]
    rw [List.Nodup.idxOf_getElem hn]
theorem mem_rawL {ns : List Str} {cs : List Cl} {s : Str} {i : Nat} (hn : ns.Nodup) : i ∈ rawL ns cs s ↔ i < ns.length ∧ ∃ c ∈ cs, c.nm = s ∧ hits c (ns[i]?.getD []) = true := by
  unfold rawL rawC
  simp only [List.mem_flatMap, List.mem_filter, List.mem_append, mem_nums hn, hits, Bool.or_eq_true, List.contains_iff_mem, beq_iff_eq]
  constructor
  · rintro ⟨c, ⟨hc, rfl⟩, (⟨h1, h2⟩ | ⟨h1, h2⟩)⟩
    · exact ⟨h1, c, hc, rfl, .inl h2⟩
    · exact ⟨h1, c, hc, rfl, .inr h2⟩
  · rintro ⟨h1, c, hc, rfl, (h2 | h2)⟩
    · exact ⟨c, ⟨hc, rfl⟩, .inl ⟨h1, h2⟩⟩
    · exact ⟨c, ⟨hc, rfl⟩, .inr ⟨h1, h2⟩⟩
theorem deps_increasing (p : Pl) (s : Str) : (deps p s).Pairwise (· < ·) := by
  unfold deps
  exact List.Pairwise.filter _ List.pairwise_lt_range
theorem mem_deps {p : Pl} {s : Str} {i : Nat} : i ∈ deps p s ↔ i < (names p).length ∧ direct p s ((names p)[i]?.getD []) = true := by
  unfold deps; simp
/-- What newGraph keeps for a name is what it depends on. -/
theorem compact_raw (p : Pl) (s : Str) : Lib.compact (srt (rawL (names p) p.cls s)) = deps p s := by
  refine eq_of_increasing (compact_increasing (srt_sorted _)) (deps_increasing p s) fun i => ?_
  rw [compact_mem, mem_srt, mem_rawL (names_nodup p), mem_deps]
  unfold direct
  rw [List.any_eq_true]
  simp only [Bool.and_eq_true, beq_iff_eq]
theorem nums_length (ns : List Str) (e : Ex) : (nums ns e).length ≤ e.parts := Nat.le_trans (List.length_filterMap_le _ _) (refs_length e)

/-- How many parts the clauses have together. -/
def clSize : List Cl → Nat
  | [] => 0
  | c :: r => c.wh.parts + c.th.parts + clSize r
theorem clSize_append (a b : List Cl) : clSize (a ++ b) = clSize a + clSize b := by
  induction a with
  | nil => simp [clSize]
  | cons c r ih => simp [clSize, ih]; omega
theorem rawC_length (ns : List Str) (c : Cl) : (rawC ns c).length ≤ c.wh.parts + c.th.parts := by
  unfold rawC; rw [List.length_append]
  have := nums_length ns c.wh; have := nums_length ns c.th; omega
theorem rawL_length (ns : List Str) (cs : List Cl) (s : Str) : (rawL ns cs s).length ≤ clSize cs := by
  unfold rawL
  induction cs with
  | nil => simp [clSize]
  | cons c r ih =>
    rw [List.filter_cons]
    have := rawC_length ns c
    split
    · rw [List.flatMap_cons, List.length_append, clSize]; omega
    · rw [clSize]; omega
theorem clSize_take_le (cs : List Cl) (k : Nat) : clSize (cs.take k) ≤ clSize cs := by
  have h := congrArg clSize (List.take_append_drop k cs)
  rw [clSize_append] at h; omega
theorem parts_le_clSize {cs : List Cl} {c : Cl} (h : c ∈ cs) : c.wh.parts + c.th.parts ≤ clSize cs := by
  induction cs with
  | nil => simp at h
  | cons x r ih =>
    rw [clSize]
    rcases List.mem_cons.1 h with rfl | h
    · omega
    · have := ih h; omega
/-- A plan's size, for the walks. -/
def Pl.size (p : Pl) : Nat := p.defs.length + p.cls.length + clSize p.cls
theorem deps_length (p : Pl) (s : Str) : (deps p s).length ≤ (names p).length := by
  unfold deps; exact Nat.le_trans (List.length_filter_le _ _) (by simp)
end Go.Proofs.Ythbnbjigmgoldaa
