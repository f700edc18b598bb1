/- Layer 16 in plain Lean: the clauses in force. No conditions. -/
import Derived.Test.YthooiobhlbnaoaaGreatOSpec
namespace Go.Proofs.YthooiobhlbnaoaaGreat
set_option linter.unusedVariables false

/-- What InForce looks at in a clause. -/
structure Gc where
  nm : Str
  lb : Str
  fr : Int
  to : Int
  kn : Int
  off : Bool
instance : Inhabited Gc := ⟨⟨[], [], 0, 0, 0, false⟩⟩

/-- A clause covers a date and is known. -/
def cov (c : Gc) (nm : Str) (d k : Int) : Bool := c.nm == nm && decide (c.fr ≤ d) && decide (d < c.to) && decide (c.kn ≤ k)
def gAt (cs : List Gc) (i : Nat) : Gc := cs[i]?.getD default
/-- Clause k counts rather than clause i. -/
def later (cs : List Gc) (i k : Nat) : Bool := decide ((gAt cs i).kn < (gAt cs k).kn) || ((gAt cs k).kn == (gAt cs i).kn && decide (i < k))
/-- Some clause k below n with i's label counts rather than clause i. -/
def beaten (cs : List Gc) (nm : Str) (d kn : Int) (i n : Nat) : Bool := (List.range n).any fun k => (gAt cs k).lb == (gAt cs i).lb && cov (gAt cs k) nm d kn && later cs i k
def forced (cs : List Gc) (nm : Str) (d kn : Int) (i : Nat) : Bool := cov (gAt cs i) nm d kn && !(gAt cs i).off && !beaten cs nm d kn i cs.length
/-- The clauses in force. -/
def forceL (cs : List Gc) (nm : Str) (d kn : Int) : List Nat := (List.range cs.length).filter (forced cs nm d kn)

/-! ### the program's way: of each label the clause that counts, among the first n -/
def bestU (cs : List Gc) (nm : Str) (d kn : Int) (n : Nat) (f : Str → Option Nat) : Str → Option Nat :=
  if cov (gAt cs n) nm d kn then
    match f (gAt cs n).lb with
    | none => fun s => if s == (gAt cs n).lb then some n else f s
    | some j => if (gAt cs j).kn ≤ (gAt cs n).kn then fun s => if s == (gAt cs n).lb then some n else f s else f
  else f
def best (cs : List Gc) (nm : Str) (d kn : Int) : Nat → Str → Option Nat
  | 0 => fun _ => none
  | n + 1 => bestU cs nm d kn n (best cs nm d kn n)

section
variable {cs : List Gc} {nm : Str} {d kn : Int}
/-- What the best is. -/
structure IsBest (cs : List Gc) (nm : Str) (d kn : Int) (n : Nat) (s : Str) (i : Nat) : Prop where
  lt : i < n
  lb : (gAt cs i).lb = s
  cov : cov (gAt cs i) nm d kn = true
  top : ∀ k, k < n → (gAt cs k).lb = s → Go.Proofs.YthooiobhlbnaoaaGreat.cov (gAt cs k) nm d kn = true → later cs i k = false

theorem later_false {i k : Nat} : later cs i k = false ↔ (gAt cs k).kn ≤ (gAt cs i).kn ∧ ((gAt cs k).kn = (gAt cs i).kn → k ≤ i) := by
  unfold later
  simp only [Bool.or_eq_false_iff, decide_eq_false_iff_not, Bool.and_eq_false_iff, beq_eq_false_iff_ne]
  constructor
  · rintro ⟨h1, h2⟩; exact ⟨by omega, fun e => by rcases h2 with h2 | h2 <;> omega⟩
  · rintro ⟨h1, h2⟩
    refine ⟨by omega, ?_⟩
    by_cases e : (gAt cs k).kn = (gAt cs i).kn
    · exact .inr (by have := h2 e; omega)
    · exact .inl e

theorem best_spec (n : Nat) (s : Str) : (∀ i, best cs nm d kn n s = some i → IsBest cs nm d kn n s i) ∧ (best cs nm d kn n s = none → ∀ k, k < n → (gAt cs k).lb = s → cov (gAt cs k) nm d kn = false) := by
  induction n generalizing s with
  | zero => exact ⟨fun i h => (nomatch h), fun _ k hk => absurd hk (by omega)⟩
  | succ n ih =>
    have keep : ∀ (hk : ∀ i, best cs nm d kn n s = some i → (gAt cs n).lb = s → cov (gAt cs n) nm d kn = true → later cs i n = false) (hk2 : best cs nm d kn n s = none → (gAt cs n).lb = s → cov (gAt cs n) nm d kn = false),
        (∀ i, best cs nm d kn n s = some i → IsBest cs nm d kn (n + 1) s i) ∧ (best cs nm d kn n s = none → ∀ k, k < n + 1 → (gAt cs k).lb = s → cov (gAt cs k) nm d kn = false) := by
      intro hk hk2
      refine ⟨fun i hi => ?_, fun hn k hkn hl => ?_⟩
      · obtain ⟨h1, h2, h3, h4⟩ := (ih s).1 i hi
        refine ⟨by omega, h2, h3, fun k hkn hl hc => ?_⟩
        by_cases hkk : k = n
        · subst hkk; exact hk i hi hl hc
        · exact h4 k (by omega) hl hc
      · by_cases hkk : k = n
        · subst hkk; exact hk2 hn hl
        · exact (ih s).2 hn k (by omega) hl
    have take : ∀ (hs : (gAt cs n).lb = s) (hc : cov (gAt cs n) nm d kn = true) (ht : ∀ k, k < n → (gAt cs k).lb = s → cov (gAt cs k) nm d kn = true → (gAt cs k).kn ≤ (gAt cs n).kn), IsBest cs nm d kn (n + 1) s n := by
      intro hs hc ht
      refine ⟨by omega, hs, hc, fun k hk hl hck => later_false.2 ?_⟩
      by_cases hkk : k = n
      · subst hkk; exact ⟨by omega, fun _ => by omega⟩
      · exact ⟨ht k (by omega) hl hck, fun _ => by omega⟩
    show (∀ i, bestU cs nm d kn n (best cs nm d kn n) s = some i → _) ∧ (bestU cs nm d kn n (best cs nm d kn n) s = none → _)
    unfold bestU
    by_cases hc : cov (gAt cs n) nm d kn = true
    · rw [if_pos hc]
      cases hb : best cs nm d kn n (gAt cs n).lb with
      | none =>
        simp only
        by_cases hs : s = (gAt cs n).lb
        · subst hs
          simp only [beq_self_eq_true, if_true]
          refine ⟨fun i hi => ?_, fun h => (nomatch h)⟩
          obtain rfl := Option.some.inj hi
          exact take rfl hc fun k hk hl hck => by have := (ih _).2 hb k hk hl; rw [this] at hck; cases hck
        · have : (s == (gAt cs n).lb) = false := beq_eq_false_iff_ne.2 hs
          simp only [this, Bool.false_eq_true, if_false]
          exact keep (fun i hi hl _ => absurd hl.symm hs) (fun _ hl => absurd hl.symm hs)
      | some j =>
        simp only
        obtain ⟨j1, j2, j3, j4⟩ := (ih _).1 j hb
        by_cases hkn : (gAt cs j).kn ≤ (gAt cs n).kn
        · rw [if_pos hkn]
          by_cases hs : s = (gAt cs n).lb
          · subst hs
            simp only [beq_self_eq_true, if_true]
            refine ⟨fun i hi => ?_, fun h => (nomatch h)⟩
            obtain rfl := Option.some.inj hi
            exact take rfl hc fun k hk hl hck => by have := (later_false.1 (j4 k hk hl hck)).1; omega
          · have : (s == (gAt cs n).lb) = false := beq_eq_false_iff_ne.2 hs
            simp only [this, Bool.false_eq_true, if_false]
            exact keep (fun i hi hl _ => absurd hl.symm hs) (fun _ hl => absurd hl.symm hs)
        · rw [if_neg hkn]
          refine keep (fun i hi hl _ => ?_) (fun hn hl => ?_)
          · rw [hl] at hb
            rw [hb] at hi
            obtain rfl := Option.some.inj hi
            exact later_false.2 ⟨by omega, fun e => by omega⟩
          · rw [hl] at hb; rw [hb] at hn; cases hn
    · rw [if_neg hc]
      exact keep (fun i hi hl h => absurd h hc) (fun _ _ => by simpa using hc)

/-- The clauses in force are the best ones that do not withdraw. -/
theorem forced_iff {i : Nat} (hi : i < cs.length) : forced cs nm d kn i = true ↔ best cs nm d kn cs.length (gAt cs i).lb = some i ∧ (gAt cs i).off = false := by
  have hb := best_spec (cs := cs) (nm := nm) (d := d) (kn := kn) cs.length (gAt cs i).lb
  unfold forced beaten
  constructor
  · intro h
    simp only [Bool.and_eq_true, Bool.not_eq_true', List.any_eq_false, List.mem_range, Bool.and_eq_true, beq_iff_eq, not_and, Bool.not_eq_true] at h
    obtain ⟨⟨h1, h2⟩, h3⟩ := h
    refine ⟨?_, h2⟩
    cases hq : best cs nm d kn cs.length (gAt cs i).lb with
    | none => have := hb.2 hq i hi rfl; rw [this] at h1; cases h1
    | some j =>
      obtain ⟨j1, j2, j3, j4⟩ := hb.1 j hq
      have e1 := later_false.1 (j4 i hi rfl h1)
      have e2 := later_false.1 (h3 j j1 ⟨j2, j3⟩)
      have : i = j := by have := e1.2; have := e2.2; omega
      rw [this]
  · rintro ⟨h1, h2⟩
    obtain ⟨j1, j2, j3, j4⟩ := hb.1 i h1
    simp only [Bool.and_eq_true, Bool.not_eq_true', List.any_eq_false, List.mem_range, beq_iff_eq, not_and, Bool.not_eq_true]
    exact ⟨⟨j3, h2⟩, fun k hk h => j4 k hk h.1 h.2⟩
theorem mem_forceL {i : Nat} : i ∈ forceL cs nm d kn ↔ i < cs.length ∧ best cs nm d kn cs.length (gAt cs i).lb = some i ∧ (gAt cs i).off = false := by
  unfold forceL
  rw [List.mem_filter, List.mem_range]
  constructor
  · rintro ⟨h1, h2⟩; exact ⟨h1, (forced_iff h1).1 h2⟩
  · rintro ⟨h1, h2⟩; exact ⟨h1, (forced_iff h1).2 h2⟩
theorem forceL_sorted : (forceL cs nm d kn).Pairwise (· < ·) := (List.pairwise_lt_range (n := cs.length)).filter _
theorem forceL_length : (forceL cs nm d kn).length ≤ cs.length := by
  have := List.length_filter_le (forced cs nm d kn) (List.range cs.length)
  rw [List.length_range] at this; exact this
end
end Go.Proofs.YthooiobhlbnaoaaGreat
