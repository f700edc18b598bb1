/- Contracts and plain laws, several texts in one (GMem, GSrt0, GSort, GInF, GrCov, GrInF). No conditions beyond those stated. -/
import Derived.Test.YthooiobhlbnaoaaGreatGSpec
import Derived.Test.YthooiobhlbnaoaaGreatOMap
import Derived.Test.YthooiobhlbnaoaaGreatOClM
import Derived.OwnWalk
import Derived.Test.YthooiobhlbnaoaaGreatGShelf
import Derived.Sort.OwnSortedInts
import Derived.Deep.Cut
namespace Go.Proofs.YthooiobhlbnaoaaGreat
open Go.RowKit
set_option linter.unusedVariables false

def gcOf (x : Cv) : Gc := ⟨x.nm, x.lb, x.fr, x.to, x.kn, x.off⟩
/-- v reads as the clauses cs. -/
def Gls (K : Nat) (w : World) (v : Value) (cs : List Gc) : Prop :=
  ∃ g : Nat → Cv, RowsV 24 (fun i j => (g i).cell j) K w v cs.length ∧ ∀ i, i < cs.length → gcOf (g i) = gAt cs i ∧ (g i).nm.length ≤ maxLen ∧ (g i).lb.length ≤ maxLen
theorem Gls.below {K K' B : Nat} {w w' : World} {v : Value} {cs : List Gc} (h : Gls K w v cs) (hb : Below B w w') (hB : K ≤ B) (hK : K ≤ K') : Gls K' w' v cs := by
  obtain ⟨g, h1, h2⟩ := h; exact ⟨g, h1.below hb hB hK, h2⟩
theorem Gls.form {K : Nat} {w : World} {v : Value} {cs : List Gc} (h : Gls K w v cs) : ∃ a cap, v = .slice a cs.length cap ∧ cs.length ≤ cap ∧ cap ≤ maxLen := by
  obtain ⟨g, h1, h2⟩ := h; exact h1.form
/-- What stands in the map. -/
def bestV (cs : List Gc) (nm : Str) (d kn : Int) (n : Nat) (s : Str) : Option Value := (best cs nm d kn n s).map Z
theorem bestV_zero (cs : List Gc) (nm : Str) (d kn : Int) : bestV cs nm d kn 0 = fun _ => none := by funext s; rfl
theorem best_keep {cs : List Gc} {nm : Str} {d kn : Int} {n : Nat} (h : cov (gAt cs n) nm d kn = false) : best cs nm d kn (n + 1) = best cs nm d kn n := by
  show bestU cs nm d kn n (best cs nm d kn n) = _
  unfold bestU; rw [h]; rfl
theorem best_less {cs : List Gc} {nm : Str} {d kn : Int} {n j : Nat} (h : best cs nm d kn n (gAt cs n).lb = some j) (hk : ¬ (gAt cs j).kn ≤ (gAt cs n).kn) : best cs nm d kn (n + 1) = best cs nm d kn n := by
  show bestU cs nm d kn n (best cs nm d kn n) = _
  unfold bestU; rw [h]; simp [hk]
theorem bestV_put {cs : List Gc} {nm : Str} {d kn : Int} {n : Nat} (hc : cov (gAt cs n) nm d kn = true) (h : ∀ j, best cs nm d kn n (gAt cs n).lb = some j → (gAt cs j).kn ≤ (gAt cs n).kn) : updF (bestV cs nm d kn n) (gAt cs n).lb (Z n) = bestV cs nm d kn (n + 1) := by
  funext s
  show _ = (bestU cs nm d kn n (best cs nm d kn n) s).map Z
  unfold bestU updF bestV
  rw [if_pos hc]
  cases hb : best cs nm d kn n (gAt cs n).lb with
  | none => simp only; split <;> simp_all
  | some j =>
    simp only [h j hb, if_true]
    split <;> simp_all
theorem best_lt {cs : List Gc} {nm : Str} {d kn : Int} {n j : Nat} {s : Str} (h : best cs nm d kn n s = some j) : j < n := ((best_spec n s).1 j h).lt
theorem best_lb {cs : List Gc} {nm : Str} {d kn : Int} {n j : Nat} {s : Str} (h : best cs nm d kn n s = some j) : (gAt cs j).lb = s := ((best_spec n s).1 j h).lb

/-! ### maps beside rows -/
theorem row_ne_map {w : World} {k b m base e z n : Nat} {f : Lit → Option Value} {v : Value} {xs : List Value} (h : MapIs w k b m f) (h' : w.ownsRow base e z v n xs) : v.ownBlock = none ∨ v.ownBlock ≠ some b := by
  cases hv : v.ownBlock with
  | none => exact .inl rfl
  | some g =>
    refine .inr fun he => ?_
    cases he
    obtain ⟨o, ho, hc⟩ := (ownsRow_cells h' hv).2
    obtain ⟨D, ⟨es, clock, hh, _⟩, _⟩ := h
    rw [hh] at ho; cases ho; simp [Obj.isCells] at hc
theorem row_ne_rng {w : World} {b r n cnt base e z n' : Nat} {D : DataW Value} {left : Lit → Bool} {v : Value} {xs : List Value} (h : w.ranges Tryz.prog 9 tok b r n D left cnt) (h' : w.ownsRow base e z v n' xs) : v.ownBlock = none ∨ v.ownBlock ≠ some r := by
  cases hv : v.ownBlock with
  | none => exact .inl rfl
  | some g =>
    refine .inr fun he => ?_
    cases he
    obtain ⟨o, ho, hc⟩ := (ownsRow_cells h' hv).2
    obtain ⟨es, clock, since, seen, c0, _, _, _, _, hr, _⟩ := h
    rw [hr] at ho; cases ho; simp [Obj.isCells] at hc
theorem ne_symm_row {v : Value} {b : Nat} (h : v.ownBlock = none ∨ v.ownBlock ≠ some b) : some b ≠ v.ownBlock := by
  rcases h with h | h
  · rw [h]; simp
  · exact fun e => h e.symm

theorem invK (key : Value) (kl : Lit) (h : keyOf Tryz.prog 9 key = some kl) : ∃ x : Str, key = S x := by
  cases key <;> simp [keyOf, mapKey, Tryz.underlying9] at h
  rename_i s
  exact ⟨s.data.toList, rfl⟩
theorem keyOf_S_inv {x : Str} {kl : Lit} (h : keyOf Tryz.prog 9 (S x) = some kl) : kl = .string x ∧ x.length ≤ maxLen := by
  unfold keyOf mapKey at h
  simp [Tryz.underlying9, ByteArray.size] at h
  exact ⟨h.2.symm, h.1⟩
end Go.Proofs.YthooiobhlbnaoaaGreat
namespace Go.Proofs.YthooiobhlbnaoaaGreat
open Go.RowKit
set_option linter.unusedVariables false

/-! ### plain -/
theorem eq_of_increasing : ∀ {l m : List Nat}, l.Pairwise (· < ·) → m.Pairwise (· < ·) → (∀ x, x ∈ l ↔ x ∈ m) → l = m := by
  intro l
  induction l with
  | nil =>
    intro m _ _ h
    cases m with
    | nil => rfl
    | cons y r => exact absurd ((h y).2 (by simp)) (by simp)
  | cons x r ih =>
    intro m hl hm h
    cases m with
    | nil => exact absurd ((h x).1 (by simp)) (by simp)
    | cons y s =>
      rw [List.pairwise_cons] at hl hm
      have hxy : x = y := by
        have h1 := (h x).1 (by simp)
        have h2 := (h y).2 (by simp)
        rcases List.mem_cons.1 h1 with h1 | h1
        · exact h1
        · rcases List.mem_cons.1 h2 with h2 | h2
          · exact h2.symm
          · have := hm.1 x h1; have := hl.1 y h2; omega
      subst hxy
      rw [ih hl.2 hm.2 fun z => ?_]
      constructor
      · intro hz
        have := (h z).1 (by simp [hz])
        rcases List.mem_cons.1 this with rfl | h3
        · exact absurd (hl.1 z hz) (by omega)
        · exact h3
      · intro hz
        have := (h z).2 (by simp [hz])
        rcases List.mem_cons.1 this with rfl | h3
        · exact absurd (hm.1 z hz) (by omega)
        · exact h3

def srt (l : List Nat) : List Nat := l.mergeSort fun x y => decide (x ≤ y)
theorem srt_perm (l : List Nat) : (srt l).Perm l := List.mergeSort_perm l _
theorem srt_sorted (l : List Nat) : (srt l).Pairwise (· ≤ ·) := by
  have := List.pairwise_mergeSort (le := fun x y : Nat => decide (x ≤ y)) (fun a b c h1 h2 => by simp at *; omega) (fun a b => by simp; omega) l
  exact this.imp (fun h => by simpa using h)
theorem srt_length (l : List Nat) : (srt l).length = l.length := (srt_perm l).length_eq
theorem mem_srt {l : List Nat} {x : Nat} : x ∈ srt l ↔ x ∈ l := (srt_perm l).mem_iff

abbrev zc (l : List Nat) : List Int := l.map fun n : Nat => (n : Int)
theorem zc_val (l : List Nat) : (zc l).map (Value.int .i64) = l.map Z := by simp [zc]
theorem zc_srt (l : List Nat) : (zc l).mergeSort (fun x y => decide (x ≤ y)) = zc (srt l) := by
  unfold zc srt
  rw [List.map_mergeSort]
  intro a _ b _
  simp
end Go.Proofs.YthooiobhlbnaoaaGreat
namespace Go.Proofs.YthooiobhlbnaoaaGreat
open Go.RowKit
set_option linter.unusedVariables false

/-! ### the library's functions -/
theorem sortInts_own (base : Nat) (v : Value) (l : List Nat) (w : World) (h : OwnN base w v l) (hl : l.length ≤ 2 ^ 40) :
    Calls Tryz.prog 88 #[v] w fun e w' => e = .returned (.tuple #[]) ∧ OwnN base w' v (srt l) ∧ w.grownBy w' v.ownBlock := by
  rcases id h.2 with ⟨rfl, h0⟩ | ⟨g, cap, cur, rfl, hb, hg, hn, hm, hs, ht⟩
  · have : l = [] := List.eq_nil_of_length_eq_zero h0
    subst this
    refine (Tryz.sort_Ints_none none 0 w).mono ?_
    rintro e w' ⟨rfl, rfl⟩
    exact ⟨rfl, by simpa [srt] using OwnN.nil base w', World.grownBy.refl _ _⟩
  · have hlz : (zc l).length = l.length := by simp
    have hlt := (Array.getElem?_eq_some_iff.1 hg).1
    have ht' : cur.toList.take (zc l).length = (zc l).map (Value.int .i64) := by rw [hlz, zc_val]; simpa using ht
    have hc := Tryz.sort_Ints g 0 cap (zc l) w (holds_of_blockI hg ht') hlt (by rw [hlz]; omega)
    rw [hlz] at hc
    refine hc.mono ?_
    rintro e w' ⟨rfl, n, os, rfl⟩
    refine ⟨rfl, ?_, grownBy_sortedI _⟩
    rw [zc_srt]
    have := ownsRow_sortedI (n := n) (os := os) (ss := zc l) (ts := zc (srt l)) (by simp [srt_length]) hb hg (by simpa using hn) hm hs
    unfold OwnN
    rw [← zc_val, srt_length]
    rw [hlz] at this
    exact this

end Go.Proofs.YthooiobhlbnaoaaGreat
namespace Go.Proofs.YthooiobhlbnaoaaGreat
open Go.RowKit
set_option linter.unusedVariables false

/-- What the rounds over the map keep. -/
structure Fr (cs : List Gc) (nm : Str) (d kn : Int) (base M1 r m : Nat) (plan : Array Value) (D : DataW Value) (B0 : Nat) (w0 : World) (left : Lit → Bool) (cnt : Nat) (lv : Value) (l : List Nat) (W : World) : Prop where
  rng : W.ranges Tryz.prog 9 tok M1 r m D left cnt
  row : OwnN base W lv l
  nodup : l.Nodup
  mem : ∀ i, i ∈ l ↔ ∃ s, best cs nm d kn cs.length s = some i ∧ (gAt cs i).off = false ∧ left (.string s) = false
  sub : ∀ s, left (.string s) = true → (best cs nm d kn cs.length s).isSome = true
  box : Blk W B0 plan 85
  bel : Below B0 w0 W
  big : base ≤ W.heap.size
  b1 : B0 < base
  b2 : M1 < base
  b3 : base ≤ r
theorem Fr.len {cs : List Gc} {nm : Str} {d kn : Int} {base M1 r m : Nat} {plan : Array Value} {D : DataW Value} {B0 : Nat} {w0 : World} {left : Lit → Bool} {cnt : Nat} {lv : Value} {l : List Nat} {W : World}
    (h : Fr cs nm d kn base M1 r m plan D B0 w0 left cnt lv l W) : l.length ≤ cs.length := by
  have hs : ∀ x ∈ l, x ∈ List.range cs.length := fun x hx => by
    obtain ⟨s, h1, _⟩ := (h.mem x).1 hx
    exact List.mem_range.2 (best_lt h1)
  have := (List.nodup_range (n := cs.length))
  have h2 : l.length ≤ (List.range cs.length).length := by
    exact List.Nodup.length_le_of_subset h.nodup hs
  rwa [List.length_range] at h2
theorem Fr.done {cs : List Gc} {nm : Str} {d kn : Int} {base M1 r m : Nat} {plan : Array Value} {D : DataW Value} {B0 : Nat} {w0 : World} {left : Lit → Bool} {cnt : Nat} {lv : Value} {l : List Nat} {W : World}
    (h : Fr cs nm d kn base M1 r m plan D B0 w0 left cnt lv l W) (hl : ∀ kl, left kl = false) : srt l = forceL cs nm d kn := by
  refine eq_of_increasing ?_ forceL_sorted fun x => ?_
  · have hn : (srt l).Nodup := (srt_perm l).nodup_iff.2 h.nodup
    have hs := srt_sorted l
    exact (hs.and hn).imp fun {a b} h => by omega
  · rw [mem_srt, h.mem, mem_forceL]
    constructor
    · rintro ⟨s, h1, h2, _⟩
      have e := best_lb h1
      exact ⟨best_lt h1, by rw [e]; exact h1, h2⟩
    · rintro ⟨h1, h2, h3⟩
      exact ⟨_, h2, h3, hl _⟩
/-- A round: the key s. -/
theorem Fr.round {cs : List Gc} {nm : Str} {d kn : Int} {base M1 r m : Nat} {plan : Array Value} {D : DataW Value} {B0 : Nat} {w0 : World} {left : Lit → Bool} {cnt : Nat} {lv : Value} {l : List Nat} {W : World}
    (h : Fr cs nm d kn base M1 r m plan D B0 w0 left cnt lv l W) {s : Str} {i : Nat} (hl : left (.string s) = true) (hb : best cs nm d kn cs.length s = some i) {cnt' : Nat} {W' : World} {lv' : Value} {l' : List Nat}
    (hr : W'.ranges Tryz.prog 9 tok M1 r m D (fun z => left z && !z.sameKey (.string s)) cnt') (hrow : OwnN base W' lv' l') (hl' : l' = if (gAt cs i).off then l else l ++ [i]) (hbox : Blk W' B0 plan 85) (hbel : Below B0 w0 W') (hbig : base ≤ W'.heap.size) :
    Fr cs nm d kn base M1 r m plan D B0 w0 (fun z => left z && !z.sameKey (.string s)) cnt' lv' l' W' := by
  have hls : ∀ s', (left (.string s') && !(Lit.string s').sameKey (.string s)) = false ↔ left (.string s') = false ∨ s' = s := by
    intro s'; simp [Lit.sameKey]
    cases left (.string s') <;> simp
  have hni : i ∉ l := fun hi => by
    obtain ⟨s', h1, _, h3⟩ := (h.mem i).1 hi
    have e1 := best_lb h1
    have e2 := best_lb hb
    rw [← e1, e2, hl] at h3; cases h3
  refine ⟨hr, hrow, ?_, fun j => ?_, fun s' hs' => h.sub s' (by simp only [Bool.and_eq_true] at hs'; exact hs'.1), hbox, hbel, hbig, h.b1, h.b2, h.b3⟩
  · rw [hl']; split
    · exact h.nodup
    · rw [List.nodup_append]; exact ⟨h.nodup, by simp, fun a ha b hb' e => by simp at hb'; subst hb'; subst e; exact hni ha⟩
  · have key : (∃ s', best cs nm d kn cs.length s' = some j ∧ (gAt cs j).off = false ∧ (left (.string s') && !(Lit.string s').sameKey (.string s)) = false) ↔ (j ∈ l ∨ (j = i ∧ (gAt cs i).off = false)) := by
      constructor
      · rintro ⟨s', h1, h2, h3⟩
        rcases (hls s').1 h3 with h3 | rfl
        · exact .inl ((h.mem j).2 ⟨s', h1, h2, h3⟩)
        · rw [hb] at h1; obtain rfl := Option.some.inj h1; exact .inr ⟨rfl, h2⟩
      · rintro (hj | ⟨rfl, h2⟩)
        · obtain ⟨s', h1, h2, h3⟩ := (h.mem j).1 hj
          exact ⟨s', h1, h2, (hls s').2 (.inl h3)⟩
        · exact ⟨s, hb, h2, (hls s).2 (.inr rfl)⟩
    rw [key, hl']
    cases ho : (gAt cs i).off with
    | true => simp
    | false => simp

theorem cov_cases {c : Gc} {nm : Str} {d k : Int} : (cov c nm d k = true ∧ (c.nm == nm) = true ∧ decide (d < c.fr) = false ∧ decide (c.to ≤ d) = false ∧ decide (k < c.kn) = false) ∨
    (cov c nm d k = false ∧ ((c.nm == nm) = false ∨ ((c.nm == nm) = true ∧ decide (d < c.fr) = true) ∨ ((c.nm == nm) = true ∧ decide (d < c.fr) = false ∧ decide (c.to ≤ d) = true) ∨ ((c.nm == nm) = true ∧ decide (d < c.fr) = false ∧ decide (c.to ≤ d) = false ∧ decide (k < c.kn) = true))) := by
  unfold cov
  cases h1 : (c.nm == nm) with
  | false => exact .inr ⟨by simp, .inl rfl⟩
  | true =>
    by_cases h2 : d < c.fr
    · exact .inr ⟨by simp; intro h; omega, .inr (.inl ⟨rfl, by simpa using h2⟩)⟩
    · by_cases h3 : c.to ≤ d
      · exact .inr ⟨by simp; intro h h'; omega, .inr (.inr (.inl ⟨rfl, by simpa using h2, by simpa using h3⟩))⟩
      · by_cases h4 : k < c.kn
        · exact .inr ⟨by simp; intro h h'; omega, .inr (.inr (.inr ⟨rfl, by simpa using h2, by simpa using h3, by simpa using h4⟩))⟩
        · exact .inl ⟨by simp; omega, rfl, by simpa using h2, by simpa using h3, by simpa using h4⟩

set_option maxRecDepth 100000 in
set_option maxHeartbeats 4000000 in
theorem inforce_any (K : Nat) (pn : ByteArray) (vd vt vc : Value) (cs : List Gc) (nm : Str) (d kn : Int) (w : World) (h : Gls K w vc cs) (hd : vd.oneCell' = true) (ht : vt.oneCell' = true) (hK : K ≤ w.heap.size) (hlen : cs.length ≤ 2 ^ 38) (hnm : nm.length ≤ maxLen) :
    Calls Tryz.prog 38 #[.agg #[.string pn, vd, vt, vc], S nm, .int .i64 d, .int .i64 kn] w fun e w' => ∃ v, e = .returned v ∧ OwnN w.heap.size w' v (forceL cs nm d kn) ∧ Below w.heap.size w w' := by
  obtain ⟨g, hg, hgi⟩ := h
  obtain ⟨ca, ccap, rfl, hc1, hc2⟩ := id hg.form
  unfold maxLen at hc2
  obtain ⟨B0, hB0⟩ : ∃ B0, w.heap.size = B0 := ⟨_, rfl⟩
  rw [hB0] at hK ⊢
  obtain ⟨plan, hplan⟩ : ∃ plan : Array Value, #[.string pn, vd, vt, .slice ca cs.length ccap] = plan := ⟨_, rfl⟩
  obtain ⟨W1, hW1⟩ : ∃ W1, (w.alloc (.cells #[.string pn, vd, vt, .slice ca cs.length ccap] 85)).alloc (.map #[] 0) = W1 := ⟨_, rfl⟩
  have hb1 : Below B0 w W1 := hW1 ▸ ((Below.refl B0 w).alloc (by omega) _).alloc (by simp; omega) _
  have q1 : Blk W1 B0 #[.string pn, vd, vt, .slice ca cs.length ccap] 85 := by rw [← hW1, ← hB0]; exact (Blk.new w _ _).alloc _
  have m1 : MapIs W1 9 (B0 + 1) 0 (fS (bestV cs nm d kn 0)) := by
    rw [bestV_zero, ← fS_none, ← hW1, ← hB0]
    have := MapIs.made (w.alloc (.cells #[.string pn, vd, vt, .slice ca cs.length ccap] 85)) 9
    rwa [World.size_alloc] at this
  have s1 : W1.heap.size = B0 + 2 := by rw [← hW1]; simp; omega
  have HB := Lib.hid hB0
  have HW1 := Lib.hid hW1
  have HL := Lib.hid hlen
  clear hB0 hW1 hlen hplan
  have hmm := @run_makeMap Tryz.prog
  go_enter Tryz.func38, Tryz.ntmps38
  go_wp2_with fail
  simp only [HB.out]
  rw [HW1.out]
  go_loopw [21] (fun i wr => ∃ (k m : Nat), k ≤ cs.length ∧ i = .int .i64 k ∧ m ≤ k ∧ MapIs wr 9 (B0 + 1) m (fS (bestV cs nm d kn k)) ∧ Below B0 w wr ∧ Blk wr B0 #[.string pn, vd, vt, .slice ca cs.length ccap] 85 ∧ B0 + 2 ≤ wr.heap.size) (fun i _ => cs.length - (intOf i).toNat)
  case atStart => exact ⟨0, 0, Nat.zero_le _, rfl, Nat.le_refl _, m1, hb1, q1, by omega⟩
  case round =>
    obtain ⟨k, m, hk, rfl, hmk, hm, hbr, q, hsz⟩ := hrel
    obtain ⟨wo, rfl⟩ : ∃ wo : World, wo = wr := ⟨_, rfl⟩
    by_cases hlt : k < cs.length
    · obtain ⟨b, o, cap, he, _, _, hbK, hc⟩ := hg.pos (by omega)
      simp only [Value.slice.injEq, true_and] at he
      obtain ⟨rfl, rfl⟩ := he
      have hcel := cells_below hbr (Nat.lt_of_lt_of_le hbK hK) hc
      have hcc := cl_range hcel hlt
      obtain ⟨c, hcd⟩ : ∃ c, g k = c := ⟨_, rfl⟩
      have hgk := hgi k hlt
      rw [hcd] at hcc hgk
      obtain ⟨hge, hnl, hll⟩ := hgk
      obtain ⟨wc, hwc⟩ : ∃ wc, wo.alloc (.cells c.cl.toArray 89) = wc := ⟨_, rfl⟩
      obtain ⟨cb, hcb⟩ : ∃ cb, wo.heap.size = cb := ⟨_, rfl⟩
      have hqc : Blk wc cb c.cl.toArray 89 := by rw [← hwc, ← hcb]; exact Blk.new wo _ _
      have bwc : Below B0 w wc := by rw [← hwc]; exact hbr.alloc (by omega) _
      have qwc : Blk wc B0 #[.string pn, vd, vt, .slice (some ⟨b, o, none⟩) cs.length ccap] 85 := by rw [← hwc]; exact q.alloc _
      have mwc : MapIs wc 9 (B0 + 1) m (fS (bestV cs nm d kn k)) := by rw [← hwc]; exact hm.alloc _
      have swc : wc.heap.size = cb + 1 := by rw [← hwc, ← hcb]; simp
      have hcb2 : B0 + 2 ≤ cb := by omega
      have cel2 := cells_below (w' := wc) bwc (Nat.lt_of_lt_of_le hbK hK) hc
      have n0 : wc.cell? ⟨cb, 0, none⟩ = some (S c.nm) := hqc.at (by rw [List.getElem?_toArray]; exact c.cl_at (by omega))
      have n1 : wc.cell? ⟨cb, 1, none⟩ = some (S c.lb) := hqc.at (by rw [List.getElem?_toArray]; exact c.cl_at (by omega))
      have n2 : wc.cell? ⟨cb, 2, none⟩ = some (.int .i64 c.fr) := hqc.at (by rw [List.getElem?_toArray]; exact c.cl_at (by omega))
      have n3 : wc.cell? ⟨cb, 3, none⟩ = some (.int .i64 c.to) := hqc.at (by rw [List.getElem?_toArray]; exact c.cl_at (by omega))
      have n4 : wc.cell? ⟨cb, 4, none⟩ = some (.int .i64 c.kn) := hqc.at (by rw [List.getElem?_toArray]; exact c.cl_at (by omega))
      have hcv := cov_cases (c := gAt cs k) (nm := nm) (d := d) (k := kn)
      have hlb : (gAt cs k).lb = c.lb := by rw [← hge]; rfl
      have hkn : (gAt cs k).kn = c.kn := by rw [← hge]; rfl
      rw [← hge] at hcv
      simp only [gcOf] at hcv
      have HGE := Lib.hid hge
      have HCV := Lib.hid hcv
      clear hcv
      have HWC := Lib.hid hwc
      have HCB := Lib.hid hcb
      have HLB := Lib.hid hlb
      have HKN := Lib.hid hkn
      have HM := Lib.hid mwc
      have HC := Lib.hid cel2
      obtain ⟨d0, d1, d2, d3⟩ := q.four
      clear hc hcel hcd hge hwc hcb hlb hkn mwc hm cel2 hqc
      go_upto_region 5 with (first
          | (refine wpList_load_mid rfl 89 (.tmp 24) rfl b (o + k * 24) rfl c.cl _ hcc Tryz.underlying89 rfl (infoCl' c) ?_)
          | (refine wpList_store_cl rfl (.tmp 11) (.tmp 25) rfl c _ (by rfl) rfl rfl ?_; rw [HWC.out, HCB.out]))
      clear hcc d0 d1 d2 d3
      have HKEEP : Hid (¬ ((c.nm == nm) = true ∧ (c.fr ≤ d ∧ d < c.to) ∧ c.kn ≤ kn) → bestV cs nm d kn (k + 1) = bestV cs nm d kn k) := Lib.hid fun hn => by
        unfold bestV
        rw [best_keep]
        rw [← HGE.out]
        unfold cov gcOf
        simp only [Bool.and_eq_false_iff, decide_eq_false_iff_not]
        by_cases h1 : (c.nm == nm) = true
        · simp only [h1, true_and] at hn
          omega
        · exact .inl (.inl (.inl (by simpa using h1)))
      have HTAKE : Hid ((c.nm == nm) = true → (c.fr ≤ d ∧ d < c.to) ∧ c.kn ≤ kn → cov (gAt cs k) nm d kn = true) := Lib.hid fun h1 h2 => by
        rw [← HGE.out]
        unfold cov gcOf
        simp only [Bool.and_eq_true, decide_eq_true_eq, h1, true_and]
        exact ⟨h2.1, h2.2⟩
      clear HCV
      obtain ⟨ct, hct⟩ : ∃ ct, (c.nm == nm) = ct := ⟨_, rfl⟩
      have HCT := Lib.hid hct
      cases ct with
      | false =>
        have HS := Lib.hid (HKEEP.out fun hh => by rw [HCT.out] at hh; exact absurd hh.1 (by simp))
        go_frame
        go_wp2_with fail
        exact ⟨⟨k + 1, m, by omega, by go_num, by omega, by rw [HS.out]; exact HM.out, bwc, qwc, by omega⟩, by simp [intOf]; omega⟩
      | true =>
        go_frame
        go_upto_region 6 with fail
        all_goals first
          | exact ⟨⟨k + 1, by omega, by omega, m, by omega, by rw [HKEEP.out (fun hh => by have := hh.2; omega)]; exact HM.out, by omega⟩, by simp [intOf]; omega⟩
          | exact ⟨⟨k + 1, m, by omega, by go_num, by omega, by rw [HKEEP.out (fun hh => by have := hh.2; omega)]; exact HM.out, bwc, qwc, by omega⟩, by simp [intOf]; omega⟩
          | skip
        have HCOV := Lib.hid (HTAKE.out HCT.out (by omega))
        obtain ⟨d0, d1, d2, d3⟩ := qwc.four
        cases hbs : best cs nm d kn k (gAt cs k).lb with
        | none =>
          have hv1 : Hid ((fS (bestV cs nm d kn k) (.string c.lb)).getD (.int .i64 0) = .int .i64 0) := Lib.hid (by show (bestV cs nm d kn k c.lb).getD _ = _; unfold bestV; rw [← HLB.out, hbs]; rfl)
          have hv2 : Hid ((fS (bestV cs nm d kn k) (.string c.lb)).isSome = false) := Lib.hid (by show (bestV cs nm d kn k c.lb).isSome = _; unfold bestV; rw [← HLB.out, hbs]; rfl)
          have HP : Hid (updF (bestV cs nm d kn k) c.lb (Z k) = bestV cs nm d kn (k + 1)) := Lib.hid (by rw [← HLB.out]; exact bestV_put HCOV.out (fun j hj => by rw [hbs] at hj; cases hj))
          have hml : m < maxLen := by unfold maxLen; have := HL.out; omega
          clear hbs
          go_upto_region 7 with (at_lookup; refine wpList_lookOk_M _ rfl _ _ 91 rfl _ keyS Tryz.underlying91 (Tryz.zeroValue3 _) rfl HM.out _ (.string c.lb) rfl (keyOf_S c.lb hll) (.int .i64 0) false hv1.out hv2.out ?_)
          go_quiet (fail)
          go_wp2_with (at_mapUpdate; refine wpList_put_M _ rfl _ _ _ 91 rfl _ keyS Tryz.underlying91 rfl (HM.out.drewN _) hml _ (.string c.lb) rfl (keyOf_S c.lb hll) (Z k) rfl ?_; intro w7 hm7 hg7)
          rw [upd_S, HP.out] at hm7
          refine ⟨⟨k + 1, _, by omega, by go_num, ?_, hm7, (below_drewN2 bwc _).trans (below_grown hg7 (fun r e => by simp at e; omega) (by show _ ≤ wc.heap.size; omega)), Blk.kept (w := wc.drewN _) qwc hg7 (by simp), by have h1 := hg7.size; have h2 : wc.heap.size ≤ _ := h1; omega⟩, by simp [intOf]; omega⟩
          split <;> omega
        | some j =>
          have hjk := best_lt hbs
          have hgj := hgi j (by omega)
          have z4 : wc.cell? ⟨b, o + j * 24 + 4, none⟩ = some (.int .i64 (g j).kn) := by have := HC.out j (by omega) 4 (by omega); rwa [← Nat.add_assoc] at this
          have hjn : (gAt cs j).kn = (g j).kn := by rw [← hgj.1]; rfl
          have hv1 : Hid ((fS (bestV cs nm d kn k) (.string c.lb)).getD (.int .i64 0) = Z j) := Lib.hid (by show (bestV cs nm d kn k c.lb).getD _ = _; unfold bestV; rw [← HLB.out, hbs]; rfl)
          have hv2 : Hid ((fS (bestV cs nm d kn k) (.string c.lb)).isSome = true) := Lib.hid (by show (bestV cs nm d kn k c.lb).isSome = _; unfold bestV; rw [← HLB.out, hbs]; rfl)
          have hml : m < maxLen := by unfold maxLen; have := HL.out; omega
          have hjl : j < cs.length := by omega
          by_cases hle : (g j).kn ≤ c.kn
          · have HP : Hid (updF (bestV cs nm d kn k) c.lb (Z k) = bestV cs nm d kn (k + 1)) := Lib.hid (by rw [← HLB.out]; exact bestV_put HCOV.out (fun j' hj => by rw [hbs] at hj; cases hj; rw [hjn, HKN.out]; exact hle))
            have hle2 : decide ((g j).kn ≤ c.kn) = true := by simpa using hle
            clear hbs hgj hjn
            go_upto_region 7 with (at_lookup; refine wpList_lookOk_M _ rfl _ _ 91 rfl _ keyS Tryz.underlying91 (Tryz.zeroValue3 _) rfl HM.out _ (.string c.lb) rfl (keyOf_S c.lb hll) (Z j) true hv1.out hv2.out ?_)
            go_quiet (fail)
            go_wp2_with (at_mapUpdate; refine wpList_put_M _ rfl _ _ _ 91 rfl _ keyS Tryz.underlying91 rfl (HM.out.drewN _) hml _ (.string c.lb) rfl (keyOf_S c.lb hll) (Z k) rfl ?_; intro w7 hm7 hg7)
            rw [upd_S, HP.out] at hm7
            refine ⟨⟨k + 1, _, by omega, by go_num, ?_, hm7, (below_drewN2 bwc _).trans (below_grown hg7 (fun r e => by simp at e; omega) (by show _ ≤ wc.heap.size; omega)), Blk.kept (w := wc.drewN _) qwc hg7 (by simp), by have h1 := hg7.size; have h2 : wc.heap.size ≤ _ := h1; omega⟩, by simp [intOf]; omega⟩
            split <;> omega
          · have HS : Hid (bestV cs nm d kn (k + 1) = bestV cs nm d kn k) := Lib.hid (by unfold bestV; rw [best_less hbs (by rw [hjn, HKN.out]; exact hle)])
            have hle2 : decide ((g j).kn ≤ c.kn) = false := by simpa using hle
            clear hbs hgj hjn
            go_upto_region 7 with (at_lookup; refine wpList_lookOk_M _ rfl _ _ 91 rfl _ keyS Tryz.underlying91 (Tryz.zeroValue3 _) rfl HM.out _ (.string c.lb) rfl (keyOf_S c.lb hll) (Z j) true hv1.out hv2.out ?_)
            go_quiet (fail)
            go_wp2_with fail
            exact ⟨⟨k + 1, m, by omega, by go_num, by omega, by rw [HS.out]; exact HM.out.drewN _, below_drewN2 bwc _, qwc, by show _ ≤ wc.heap.size; omega⟩, by simp [intOf]; omega⟩
    · obtain rfl : k = cs.length := by omega
      obtain ⟨D, hD1, hD2, hD3, hD4⟩ := hm
      obtain ⟨d0, d1, d2, d3⟩ := q.four
      have HD1 := Lib.hid hD1
      have HD3 := Lib.hid hD3
      have HD4 := Lib.hid hD4
      clear hD1 hD2 hD3 hD4
      go_wp2_with (at_range; refine wpList_range_own _ rfl _ 91 rfl 9 _ keyS Tryz.underlying91 _ (B0 + 1) m D rfl HD1.out ?_; intro w9 hrg9 hg9 hs9)
      go_frame
      have hrg : Fr cs nm d kn (B0 + 2) (B0 + 1) wo.heap.size m #[.string pn, vd, vt, .slice ca cs.length ccap] D B0 w (Maps.has D) (Maps.size D) (.slice none 0 0) [] w9 := by
        refine ⟨hrg9, OwnN.nil _ _, List.nodup_nil, fun i => ?_, fun s hs => ?_, q.kept hg9 (by simp), hbr.trans (below_grown hg9 (fun r e => by cases e) (by omega)), by omega, by omega, by omega, by omega⟩
        · simp only [List.not_mem_nil, false_iff]
          rintro ⟨s, h1, _, h3⟩
          rw [HD3.out] at h3
          have h4 : (bestV cs nm d kn cs.length s).isSome = true := by unfold bestV; rw [h1]; rfl
          have h5 : (bestV cs nm d kn cs.length s).isSome = false := h3
          rw [h4] at h5; cases h5
        · rw [HD3.out] at hs
          have h4 : (bestV cs nm d kn cs.length s).isSome = true := hs
          unfold bestV at h4
          cases hb : best cs nm d kn cs.length s with
          | none => rw [hb] at h4; cases h4
          | some i => rfl
      obtain ⟨R, hR⟩ : ∃ R, wo.heap.size = R := ⟨_, rfl⟩
      rw [hR] at hrg
      simp only [hR]
      clear hR hrg9 hg9 hs9 q hbr hsz d0 d1 d2 d3 hmk
      go_loopw [14] (fun lv wr => ∃ left cnt l, Fr cs nm d kn (B0 + 2) (B0 + 1) R m #[.string pn, vd, vt, .slice ca cs.length ccap] D B0 w left cnt lv l wr) (fun _ wr => wr.rangeLeft (B0 + 1) R)
      case atStart => exact ⟨_, _, _, hrg⟩
      case round =>
        obtain ⟨left, cnt, l, hq⟩ := hrel
        obtain ⟨wq, rfl⟩ : ∃ wq : World, wq = wr := ⟨_, rfl⟩
        obtain ⟨d0, d1, d2, d3⟩ := hq.box.four
        obtain ⟨la, lc, rfl, _, _⟩ := hq.row.form
        have HQ := Lib.hid hq
        clear hq
        go_upto_region 13 with (at_next; refine wpList_next_ranges _ rfl _ rfl 9 keyS tok S (id : Value → Value) invK (fun v y _ => ⟨v, rfl⟩) (B0 + 1) R m D left cnt rfl HQ.out.rng (fun hc0 hl0 => ?_) (fun x v kl y w10 cnt' hkey hlk hv hat hrg10 hlt10 hg10 hs10 hen => ?_))
        · have hll : l.length ≤ 2 ^ 40 := by have := HQ.out.len; have := HL.out; omega
          have HF := Lib.hid (HQ.out.done hl0)
          refine (sortInts_own (B0 + 2) _ l wq HQ.out.row hll).mono ?_
          rintro e w11 ⟨rfl, hs11, hg11⟩
          have hb11 : Below B0 w w11 := HQ.out.bel.trans (below_grown hg11 (fun r e => by have := (ownsRow_cells HQ.out.row e).1; omega) (by have := HQ.out.big; omega))
          rw [HF.out] at hs11
          have HLN : Hid (l.length = (forceL cs nm d kn).length) := Lib.hid (by rw [← HF.out, srt_length])
          obtain ⟨fl, hfl⟩ : ∃ fl, forceL cs nm d kn = fl := ⟨_, rfl⟩
          rw [hfl] at hs11
          go_wp2_with fail
          go_ret
          exact ⟨_, rfl, by rw [hfl]; exact hs11.mono (by omega), hb11⟩
        · obtain ⟨rfl, hxl⟩ := keyOf_S_inv hkey
          obtain ⟨i, hi⟩ := Option.isSome_iff_exists.1 (HQ.out.sub x hlk)
          have hvx : v = Z i := by
            have h1 := hat (.held (.slice none 0 0))
            rw [HD4.out] at h1
            simp only [id, tok, Option.some.injEq] at hv
            rw [← hv] at h1
            simp only [DataW.held.injEq] at h1
            rw [← h1]
            show (bestV cs nm d kn cs.length x).getD _ = _
            unfold bestV
            rw [hi]; rfl
          subst hvx
          have hil := best_lt hi
          obtain ⟨b, o, cap, he, _, _, hbK, hc⟩ := hg.pos (by omega)
          simp only [Value.slice.injEq, true_and] at he
          obtain ⟨rfl, rfl⟩ := he
          have hbx := HQ.out.box.kept hg10 (by have := HQ.out.b1; have := HQ.out.b3; simp; omega)
          have bel10 : Below B0 w w10 := HQ.out.bel.trans (below_grown hg10 (fun r e => by have := HQ.out.b1; have := HQ.out.b3; simp at e; omega) (by have := HQ.out.big; omega))
          have hrow10 := HQ.out.row.kept hg10 (row_ne_rng HQ.out.rng HQ.out.row)
          have z5 : w10.cell? ⟨b, o + i * 24 + 5, none⟩ = some (.bool (g i).off) := by have := cells_below bel10 (Nat.lt_of_lt_of_le hbK hK) hc i hil 5 (by omega); rwa [← Nat.add_assoc] at this
          have hoff : (gAt cs i).off = (g i).off := by rw [← (hgi i hil).1]; rfl
          obtain ⟨d0, d1, d2, d3⟩ := hbx.four
          have hsz10 : B0 + 2 ≤ w10.heap.size := by have := HQ.out.big; omega
          have HRND : Hid (∀ (W' : World) (lv' : Value) (l' : List Nat), W'.ranges Tryz.prog 9 tok (B0 + 1) R m D (fun z => left z && !z.sameKey (.string x)) cnt' → OwnN (B0 + 2) W' lv' l' → l' = (if (gAt cs i).off then l else l ++ [i]) → Blk W' B0 #[.string pn, vd, vt, .slice (some ⟨b, o, none⟩) cs.length ccap] 85 → Below B0 w W' → B0 + 2 ≤ W'.heap.size → Fr cs nm d kn (B0 + 2) (B0 + 1) R m #[.string pn, vd, vt, .slice (some ⟨b, o, none⟩) cs.length ccap] D B0 w (fun z => left z && !z.sameKey (.string x)) cnt' lv' l' W') :=
            Lib.hid fun W' lv' l' h1 h2 h3 h4 h5 h6 => HQ.out.round hlk hi h1 h2 h3 h4 h5 h6
          obtain ⟨of, hof⟩ : ∃ of, (g i).off = of := ⟨_, rfl⟩
          rw [hof] at z5 hoff
          have HOF := Lib.hid hoff
          have hlen2 : Hid (l.length + 1 ≤ 2 ^ 40) := Lib.hid (by have := HQ.out.len; have := HL.out; omega)
          simp only [id] at hen
          clear hof hoff hi hat hv hkey hc hs10
          cases of with
          | true =>
            go_wp2_with fail
            have hnew := HRND.out w10 _ l hrg10 hrow10 (by rw [HOF.out]; rfl) hbx bel10 hsz10
            refine ⟨⟨_, _, _, hnew⟩, ?_⟩
            rw [hnew.rng.left_eq, HQ.out.rng.left_eq]; omega
          | false =>
            go_wp2_with (at_builtin; refine wpList_append_N rfl (.tmp 86) (.tmp 88) rfl rfl rfl (hrow10.old ((Below.refl _ _).alloc (Nat.le_refl _) _) (Nat.le_refl _)) ((Blk.new w10 #[Z i] _).at rfl) hlen2.out (by simp; omega) ?_; intro g1 cap1 w6 hown6 hg6 hat6)
            have ba : Below w10.heap.size w10 (w10.alloc (.cells #[Z i] 3)) := (Below.refl _ _).alloc (Nat.le_refl _) _
            have hrA := hrow10.old ba (Nat.le_refl _)
            have hrgA := hrg10.kept (World.grownBy_alloc w10 (.cells #[Z i] 3) none) (by simp) (by simp)
            have hne1 : some (B0 + 1) ≠ (Value.slice la l.length lc).ownBlock := fun e => by have := (ownsRow_cells hrow10 e.symm).1; omega
            have hrg6 := hrgA.kept hg6 hne1 (ne_symm_row (row_ne_rng hrgA hrA))
            have hbx6 := (hbx.alloc (.cells #[Z i] 3)).kept hg6 (fun e => by have := (ownsRow_cells hrow10 e.symm).1; omega)
            have bel6 : Below B0 w w6 := (bel10.alloc (by omega) (.cells #[Z i] 3)).trans (below_grown hg6 (fun r e => by have := (ownsRow_cells hrow10 e).1; omega) (by simp; omega))
            have sz6 : B0 + 2 ≤ w6.heap.size := by have := hg6.size; simp at this; omega
            have hnew := HRND.out w6 _ (l ++ [i]) hrg6 hown6 (by rw [HOF.out]; rfl) hbx6 bel6 sz6
            refine ⟨⟨_, _, _, hnew⟩, ?_⟩
            rw [hnew.rng.left_eq, HQ.out.rng.left_eq]; omega
end Go.Proofs.YthooiobhlbnaoaaGreat
namespace Go.Proofs.YthooiobhlbnaoaaGreat
open Go.RowKit
set_option linter.unusedVariables false

theorem covers_any (c : Cv) (nm : Str) (d kn : Int) (w : World) (hc : c.nm.length ≤ maxLen) (hnm : nm.length ≤ maxLen) :
    Calls Tryz.prog 89 #[.agg c.cl.toArray, S nm, .int .i64 d, .int .i64 kn] w fun e w' => e = .returned (.bool (cov (gcOf c) nm d kn)) ∧ Below w.heap.size w w' := by
  obtain ⟨B0, hB0⟩ : ∃ B0, w.heap.size = B0 := ⟨_, rfl⟩
  rw [hB0]
  obtain ⟨W1, hW1⟩ : ∃ W1, w.alloc (.cells c.cl.toArray 89) = W1 := ⟨_, rfl⟩
  have hb1 : Below B0 w W1 := hW1 ▸ (Below.refl B0 w).alloc (by omega) _
  have q1 : Blk W1 B0 c.cl.toArray 89 := by rw [← hW1, ← hB0]; exact Blk.new w _ _
  have n0 : W1.cell? ⟨B0, 0, none⟩ = some (S c.nm) := q1.at (by rw [List.getElem?_toArray]; exact c.cl_at (by omega))
  have n2 : W1.cell? ⟨B0, 2, none⟩ = some (.int .i64 c.fr) := q1.at (by rw [List.getElem?_toArray]; exact c.cl_at (by omega))
  have n3 : W1.cell? ⟨B0, 3, none⟩ = some (.int .i64 c.to) := q1.at (by rw [List.getElem?_toArray]; exact c.cl_at (by omega))
  have n4 : W1.cell? ⟨B0, 4, none⟩ = some (.int .i64 c.kn) := q1.at (by rw [List.getElem?_toArray]; exact c.cl_at (by omega))
  have HB := Lib.hid hB0
  have HW := Lib.hid hW1
  clear hB0 hW1 q1
  obtain ⟨r, hr⟩ : ∃ r, cov (gcOf c) nm d kn = r := ⟨_, rfl⟩
  have HR := Lib.hid hr
  rw [hr]
  clear hr
  have HF : Hid (¬ ((c.nm == nm) = true ∧ (c.fr ≤ d ∧ d < c.to) ∧ c.kn ≤ kn) → r = false) := Lib.hid fun hn => by
    rw [← HR.out]
    unfold cov gcOf
    simp only [Bool.and_eq_false_iff, decide_eq_false_iff_not]
    by_cases h1 : (c.nm == nm) = true
    · simp only [h1, true_and] at hn
      omega
    · exact .inl (.inl (.inl (by simpa using h1)))
  have HT : Hid ((c.nm == nm) = true → c.fr ≤ d → d < c.to → r = decide (c.kn ≤ kn)) := Lib.hid fun h1 h2 h3 => by
    rw [← HR.out]
    unfold cov gcOf
    simp only [h1, h2, h3, decide_true, Bool.true_and]
  obtain ⟨ct, hct⟩ : ∃ ct, (c.nm == nm) = ct := ⟨_, rfl⟩
  have HCT := Lib.hid hct
  cases ct with
  | false =>
    have HE := Lib.hid (HF.out fun hh => by have := hh.1; rw [HCT.out] at this; cases this)
    go_enter Tryz.func89, Tryz.ntmps89
    go_upto_region 1 with fail
    simp only [HB.out]
    rw [HW.out]
    go_wp2_with fail
    go_ret
    exact ⟨by rw [HE.out]; rfl, hb1⟩
  | true =>
    go_enter Tryz.func89, Tryz.ntmps89
    go_upto_region 1 with fail
    simp only [HB.out]
    rw [HW.out]
    go_wp2_with fail
    all_goals go_ret
    all_goals
      refine ⟨?_, hb1⟩
      first
        | (rw [HF.out fun hh => by have := hh.2; omega]; rfl)
        | (rw [HT.out HCT.out (by omega) (by omega)]; rfl)
end Go.Proofs.YthooiobhlbnaoaaGreat
namespace Go.Proofs.YthooiobhlbnaoaaGreat
open Go.RowKit
set_option linter.unusedVariables false

section
variable {P : Program} {ops : Array Oper} {rest : List Oper} {o : Oper} {a : Act} {w : World} {Q : Exit → Act → World → Prop}
theorem wpList_want (hw : Region.wanted o (yielded ops a.tmps) = true) (h : ∀ K : Act → World → Prop, (∀ a w, wpList P ops Q rest a w → K a w) → o.wp P a w K Q) : wpList P ops Q (o :: rest) a w :=
  wpList_step fun K hK => by rw [if_pos hw]; exact h K hK
/-- The load of a row, where its guard lets it by. -/
theorem wpList_load_midG (hw : Region.wanted o (yielded ops a.tmps) = true) (ty : TypeId) (x : Operand) (ho : o.op = .load ty x)
    (b p : Nat) (hx : a.eval x = .pointer (some ⟨b, p, none⟩)) (cs : List Value) (d : TypeDesc) (hc : w.rangeAt b p cs)
    (hu : P.underlying ty = some d) (hd : d.isRow = true) (hi : (P.info? ty).map (·.size) = some cs.length)
    (h : wpList P ops Q rest (a.put o.dst (.agg cs.toArray)) w) : wpList P ops Q (o :: rest) a w :=
  wpList_want hw fun _ hK => wp_load_mid ty x ho b p hx cs d hc hu hd hi (hK _ _ h)
end
theorem cl_own {w : World} {b : Nat} {c : Cv} (h : Blk w b c.cl.toArray 89) : w.rangeAt b 0 c.cl := by
  intro j v hj
  rw [Nat.zero_add]
  exact h.at (by rw [List.getElem?_toArray]; exact hj)

theorem beaten_zero {cs : List Gc} {nm : Str} {d kn : Int} {i : Nat} : beaten cs nm d kn i 0 = false := rfl
theorem beaten_succ {cs : List Gc} {nm : Str} {d kn : Int} {i k : Nat} : beaten cs nm d kn i (k + 1) = (beaten cs nm d kn i k || ((gAt cs k).lb == (gAt cs i).lb && cov (gAt cs k) nm d kn && later cs i k)) := by
  unfold beaten; rw [List.range_succ, List.any_append]; simp
theorem force_snoc {cs : List Gc} {nm : Str} {d kn : Int} {i : Nat} : (List.range (i + 1)).filter (forced cs nm d kn) = (List.range i).filter (forced cs nm d kn) ++ (if forced cs nm d kn i then [i] else []) := by
  rw [List.range_succ, List.filter_append]
  congr 1
  cases h : forced cs nm d kn i <;> simp [h]
theorem force_part (cs : List Gc) (nm : Str) (d kn : Int) (i : Nat) : ((List.range i).filter (forced cs nm d kn)).length ≤ i := by
  have := List.length_filter_le (forced cs nm d kn) (List.range i)
  rwa [List.length_range] at this

set_option maxRecDepth 100000 in
set_option maxHeartbeats 4000000 in
theorem rinforce_any (K : Nat) (pn : ByteArray) (vd vt vc : Value) (cs : List Gc) (nm : Str) (d kn : Int) (w : World) (h : Gls K w vc cs) (hd : vd.oneCell' = true) (ht : vt.oneCell' = true) (hK : K ≤ w.heap.size) (hlen : cs.length ≤ 2 ^ 38) (hnm : nm.length ≤ maxLen) :
    Calls Tryz.prog 39 #[.agg #[.string pn, vd, vt, vc], S nm, .int .i64 d, .int .i64 kn] w fun e w' => ∃ v, e = .returned v ∧ OwnN w.heap.size w' v (forceL cs nm d kn) ∧ Below w.heap.size w w' := by
  obtain ⟨g, hg, hgi⟩ := h
  obtain ⟨ca, ccap, rfl, hc1, hc2⟩ := id hg.form
  unfold maxLen at hc2
  obtain ⟨B0, hB0⟩ : ∃ B0, w.heap.size = B0 := ⟨_, rfl⟩
  rw [hB0] at hK ⊢
  obtain ⟨n, hn⟩ : ∃ n, cs.length = n := ⟨_, rfl⟩
  have HN := Lib.hid hn
  rw [hn] at hg hgi hc1 hlen ⊢
  obtain ⟨W1, hW1⟩ : ∃ W1, w.alloc (.cells #[.string pn, vd, vt, .slice ca n ccap] 85) = W1 := ⟨_, rfl⟩
  have hb1 : Below B0 w W1 := hW1 ▸ (Below.refl B0 w).alloc (by omega) _
  have q1 : Blk W1 B0 #[.string pn, vd, vt, .slice ca n ccap] 85 := by rw [← hW1, ← hB0]; exact Blk.new w _ _
  have HB := Lib.hid hB0
  have HW1 := Lib.hid hW1
  have HL := Lib.hid hlen
  clear hB0 hW1 hlen hn
  go_enter Tryz.func39, Tryz.ntmps39
  go_wp2_with fail
  simp only [HB.out]
  rw [HW1.out]
  go_loopw [9, 10] (fun lv i wr => ∃ k : Nat, k ≤ n ∧ i = .int .i64 k ∧ OwnN (B0 + 1) wr lv ((List.range k).filter (forced cs nm d kn)) ∧ Below B0 w wr ∧ Blk wr B0 #[.string pn, vd, vt, .slice ca n ccap] 85) (fun _ i _ => n - (intOf i).toNat)
  case atStart => exact ⟨0, Nat.zero_le _, rfl, OwnN.nil _ _, hb1, q1⟩
  case round =>
    obtain ⟨i, hi, rfl, hown, hbr, q⟩ := hrel
    obtain ⟨wo, rfl⟩ : ∃ wo : World, wo = wr := ⟨_, rfl⟩
    obtain ⟨la, lc, rfl, _, _⟩ := hown.form
    obtain ⟨d0, d1, d2, d3⟩ := q.four
    have hBl := q.lt
    by_cases hlt : i < n
    · obtain ⟨b, o, cap, he, _, _, hbK, hc⟩ := hg.pos (by omega)
      simp only [Value.slice.injEq, true_and] at he
      obtain ⟨rfl, rfl⟩ := he
      have hcc := cl_range (cells_below hbr (Nat.lt_of_lt_of_le hbK hK) hc) hlt
      obtain ⟨c, hcd⟩ : ∃ c, g i = c := ⟨_, rfl⟩
      have hgk := hgi i hlt
      rw [hcd] at hcc hgk
      obtain ⟨hge, hnl, hll⟩ := hgk
      obtain ⟨wc, hwc⟩ : ∃ wc, wo.alloc (.cells c.cl.toArray 89) = wc := ⟨_, rfl⟩
      obtain ⟨cb, hcb⟩ : ∃ cb, wo.heap.size = cb := ⟨_, rfl⟩
      have hqc : Blk wc cb c.cl.toArray 89 := by rw [← hwc, ← hcb]; exact Blk.new wo _ _
      have bo : Below wo.heap.size wo wc := by rw [← hwc]; exact (Below.refl _ _).alloc (Nat.le_refl _) _
      have bwc : Below B0 w wc := hbr.trans (bo.mono (by omega))
      have qwc := q.below bo hBl
      have owc := hown.old bo (Nat.le_refl _)
      have swc : wc.heap.size = cb + 1 := by rw [← hwc, ← hcb]; simp
      have hcb0 : B0 + 1 ≤ cb := by omega
      have n5 : wc.cell? ⟨cb, 5, none⟩ = some (.bool c.off) := hqc.at (by rw [List.getElem?_toArray]; exact c.cl_at (by omega))
      have hcc1 := cl_own hqc
      have hcall := covers_any c nm d kn wc hnl hnm
      have HGE := Lib.hid hge
      have HWC := Lib.hid hwc
      have HCB := Lib.hid hcb
      have HQC := Lib.hid hqc
      have HO := Lib.hid owc
      obtain ⟨cv, hcv⟩ : ∃ cv, cov (gcOf c) nm d kn = cv := ⟨_, rfl⟩
      rw [hcv] at hcall
      have HCV : Hid (cov (gAt cs i) nm d kn = cv) := Lib.hid (by rw [← hge]; exact hcv)
      clear hcd hge hwc hcb hqc bo hown owc hcv q
      go_upto_region 6 with (first
          | (refine wpList_load_mid rfl 89 (.tmp 25) rfl b (o + i * 24) rfl c.cl _ hcc Tryz.underlying89 rfl (infoCl' c) ?_)
          | (refine wpList_store_cl rfl (.tmp 11) (.tmp 26) rfl c _ (by rfl) rfl rfl ?_; rw [HWC.out, HCB.out]))
      clear hcc d0 d1 d2 d3
      go_frame
      go_wp2_with (refine wpList_load_mid rfl 89 (.tmp 11) rfl cb 0 rfl c.cl _ hcc1 Tryz.underlying89 rfl (infoCl' c) ?_)
      refine hcall.mono ?_
      rintro e w5 ⟨rfl, b5⟩
      have bw5 : Below B0 w w5 := bwc.trans (b5.mono (by omega))
      have q5 := qwc.below b5 qwc.lt
      have c5 := HQC.out.below b5 HQC.out.lt
      have o5 := HO.out.old b5 (Nat.le_refl _)
      have n5 : w5.cell? ⟨cb, 5, none⟩ = some (.bool c.off) := c5.at (by rw [List.getElem?_toArray]; exact c.cl_at (by omega))
      have s5 := b5.size
      obtain ⟨b0, hb0⟩ : ∃ b0, (cv && !c.off) = b0 := ⟨_, rfl⟩
      have HB0 : Hid ((cov (gAt cs i) nm d kn && !(gAt cs i).off) = b0) := Lib.hid (by rw [HCV.out, ← HGE.out]; exact hb0)
      have HO5 := Lib.hid o5
      have HB0' := Lib.hid hb0
      clear hb0 o5 hcall hcc1
      cases cv
      all_goals
        go_wp2_with fail
        go_loopw [12, 13] (fun u kv wr => ∃ k : Nat, k ≤ n ∧ kv = .int .i64 k ∧ (∃ bt, u = .bool bt ∧ Hid (bt = (b0 && !beaten cs nm d kn i k))) ∧ Below B0 w wr ∧ Blk wr B0 #[.string pn, vd, vt, .slice (some ⟨b, o, none⟩) n ccap] 85 ∧ Blk wr cb c.cl.toArray 89 ∧ OwnN (B0 + 1) wr (.slice la ((List.range i).filter (forced cs nm d kn)).length lc) ((List.range i).filter (forced cs nm d kn))) (fun _ kv _ => n - (intOf kv).toNat)
        case atStart => exact ⟨0, Nat.zero_le _, rfl, ⟨_, rfl, Lib.hid (by rw [beaten_zero, ← HB0'.out]; simp)⟩, bw5, q5, c5, HO5.out⟩
        case round =>
          obtain ⟨k, hk, rfl, ⟨bt, rfl, HBT⟩, hbk, qk, ck, ok⟩ := hrel
          obtain ⟨wi, rfl⟩ : ∃ wi : World, wi = wr := ⟨_, rfl⟩
          obtain ⟨d0, d1, d2, d3⟩ := qk.four
          have hBl2 := qk.lt
          have hcl2 := ck.lt
          have HOK := Lib.hid ok
          clear ok
          by_cases hlk : k < n
          · have hcc := cl_range (cells_below hbk (Nat.lt_of_lt_of_le hbK hK) hc) hlk
            obtain ⟨x, hxd⟩ : ∃ x, g k = x := ⟨_, rfl⟩
            have hgx := hgi k hlk
            rw [hxd] at hcc hgx
            obtain ⟨hxe, hxn, hxl⟩ := hgx
            obtain ⟨wx, hwx⟩ : ∃ wx, wi.alloc (.cells x.cl.toArray 89) = wx := ⟨_, rfl⟩
            obtain ⟨xb, hxb⟩ : ∃ xb, wi.heap.size = xb := ⟨_, rfl⟩
            have hqx : Blk wx xb x.cl.toArray 89 := by rw [← hwx, ← hxb]; exact Blk.new wi _ _
            have box : Below wi.heap.size wi wx := by rw [← hwx]; exact (Below.refl _ _).alloc (Nat.le_refl _) _
            have bwx : Below B0 w wx := hbk.trans (box.mono (by omega))
            have qwx := qk.below box hBl2
            have cwx := ck.below box hcl2
            have owx := HOK.out.old box (Nat.le_refl _)
            have swx : wx.heap.size = xb + 1 := by rw [← hwx, ← hxb]; simp
            have hxb0 : B0 ≤ xb := by omega
            have m1 : wx.cell? ⟨xb, 1, none⟩ = some (S x.lb) := hqx.at (by rw [List.getElem?_toArray]; exact x.cl_at (by omega))
            have m4 : wx.cell? ⟨xb, 4, none⟩ = some (.int .i64 x.kn) := hqx.at (by rw [List.getElem?_toArray]; exact x.cl_at (by omega))
            have n1 : wx.cell? ⟨cb, 1, none⟩ = some (S c.lb) := cwx.at (by rw [List.getElem?_toArray]; exact c.cl_at (by omega))
            have n4 : wx.cell? ⟨cb, 4, none⟩ = some (.int .i64 c.kn) := cwx.at (by rw [List.getElem?_toArray]; exact c.cl_at (by omega))
            have hccx := cl_own hqx
            have hcallx := covers_any x nm d kn wx hxn hnm
            obtain ⟨cx, hcx⟩ : ∃ cx, cov (gcOf x) nm d kn = cx := ⟨_, rfl⟩
            rw [hcx] at hcallx
            have HCX : Hid (cov (gAt cs k) nm d kn = cx) := Lib.hid (by rw [← hxe]; exact hcx)
            have HXE := Lib.hid hxe
            have HWX := Lib.hid hwx
            have HXB := Lib.hid hxb
            have HQX := Lib.hid hqx
            have HOX := Lib.hid owx
            obtain ⟨el, hel⟩ : ∃ el, (x.lb == c.lb) = el := ⟨_, rfl⟩
            have HEL := Lib.hid hel
            have HNO : Hid (¬ (el = true ∧ cx = true ∧ (c.kn < x.kn ∨ x.kn = c.kn ∧ i < k)) → (b0 && !beaten cs nm d kn i (k + 1)) = (b0 && !beaten cs nm d kn i k)) := Lib.hid fun hno => by
              rw [beaten_succ, HCX.out, ← HXE.out, ← HGE.out]
              have e1 : ((gcOf x).lb == (gcOf c).lb) = el := HEL.out
              rw [e1]
              have e2 : (el && cx && later cs i k) = false := by
                cases el with
                | false => rfl
                | true =>
                  cases cx with
                  | false => rfl
                  | true =>
                    simp only [Bool.true_and]
                    refine later_false.2 ?_
                    have hx1 : (gAt cs k).kn = x.kn := by rw [← HXE.out]; rfl
                    have hc1 : (gAt cs i).kn = c.kn := by rw [← HGE.out]; rfl
                    rw [hx1, hc1]
                    simp only [true_and] at hno
                    constructor
                    · omega
                    · intro e; omega
              rw [e2, Bool.or_false]
            have HYES : Hid (el = true → cx = true → (c.kn < x.kn ∨ x.kn = c.kn ∧ i < k) → false = (b0 && !beaten cs nm d kn i (k + 1))) := Lib.hid fun h1 h2 h3 => by
              rw [beaten_succ, HCX.out, ← HXE.out, ← HGE.out]
              have e1 : ((gcOf x).lb == (gcOf c).lb) = el := HEL.out
              rw [e1, h1, h2]
              have e2 : later cs i k = true := by
                cases hl : later cs i k with
                | true => rfl
                | false =>
                  have := later_false.1 hl
                  have hx1 : (gAt cs k).kn = x.kn := by rw [← HXE.out]; rfl
                  have hc1 : (gAt cs i).kn = c.kn := by rw [← HGE.out]; rfl
                  rw [hx1, hc1] at this
                  exfalso
                  obtain ⟨t1, t2⟩ := this
                  rcases h3 with h3 | ⟨h3, h4⟩
                  · omega
                  · have := t2 h3; omega
              rw [e2]; simp
            clear hxd hxe hwx hxb hqx box owx hcx hel
            go_upto_region 11 with (first
                | (refine wpList_load_mid rfl 89 (.tmp 47) rfl b (o + k * 24) rfl x.cl _ hcc Tryz.underlying89 rfl (infoCl' x) ?_)
                | (refine wpList_store_cl rfl (.tmp 14) (.tmp 48) rfl x _ (by rfl) rfl rfl ?_; rw [HWX.out, HXB.out]))
            clear hcc d0 d1 d2 d3
            go_frame
            have hel := HEL.out
            cases el with
            | false =>
              have HS := Lib.hid (HNO.out (by simp))
              go_wp2_with fail
              exact ⟨⟨k + 1, by omega, by go_num, ⟨_, rfl, Lib.hid (by rw [HS.out]; exact HBT.out)⟩, bwx, qwx, cwx, HOX.out⟩, by simp [intOf]; omega⟩
            | true =>
              go_wp2_with (refine wpList_load_midG (by kernel_rfl) 89 (.tmp 14) rfl xb 0 rfl x.cl _ hccx Tryz.underlying89 rfl (infoCl' x) ?_)
              refine hcallx.mono ?_
              rintro e w6 ⟨rfl, b6⟩
              have bw6 : Below B0 w w6 := bwx.trans (b6.mono (by omega))
              have q6 := qwx.below b6 qwx.lt
              have c6 := cwx.below b6 cwx.lt
              have x6 := HQX.out.below b6 HQX.out.lt
              have HO6 := Lib.hid (HOX.out.old b6 (Nat.le_refl _))
              have m4 : w6.cell? ⟨xb, 4, none⟩ = some (.int .i64 x.kn) := x6.at (by rw [List.getElem?_toArray]; exact x.cl_at (by omega))
              have n4 : w6.cell? ⟨cb, 4, none⟩ = some (.int .i64 c.kn) := c6.at (by rw [List.getElem?_toArray]; exact c.cl_at (by omega))
              clear hcallx hccx n1
              cases cx with
              | false =>
                have HS := Lib.hid (HNO.out (by simp))
                go_wp2_with fail
                exact ⟨⟨k + 1, by omega, by go_num, ⟨_, rfl, Lib.hid (by rw [HS.out]; exact HBT.out)⟩, bw6, q6, c6, HO6.out⟩, by simp [intOf]; omega⟩
              | true =>
                go_wp2_with fail
                all_goals first
                  | exact ⟨⟨k + 1, by omega, by go_num, ⟨_, rfl, Lib.hid (by rw [HNO.out (fun hh => by have := hh.2.2; omega)]; exact HBT.out)⟩, bw6, q6, c6, HO6.out⟩, by simp [intOf]; omega⟩
                  | exact ⟨⟨k + 1, by omega, by go_num, ⟨_, rfl, Lib.hid (HYES.out (by trivial) (by trivial) (by omega))⟩, bw6, q6, c6, HO6.out⟩, by simp [intOf]; omega⟩
                  | skip
          · obtain rfl : k = n := by omega
            have HFO : Hid (forced cs nm d kn i = bt) := Lib.hid (by unfold forced; rw [HN.out, HB0.out]; exact HBT.out.symm)
            have hsz : B0 + 1 ≤ wi.heap.size := by omega
            have hll2 : Hid (((List.range i).filter (forced cs nm d kn)).length + 1 ≤ 2 ^ 40) := Lib.hid (by have := force_part cs nm d kn i; have := HL.out; omega)
            have ho9 := HOK.out
            cases bt with
            | false =>
              have HS : Hid ((List.range (i + 1)).filter (forced cs nm d kn) = (List.range i).filter (forced cs nm d kn)) := Lib.hid (by rw [force_snoc, HFO.out]; simp)
              go_wp2_with fail
              exact ⟨⟨i + 1, by omega, by go_num, by rw [HS.out]; exact HOK.out, hbk, qk⟩, by simp [intOf]; omega⟩
            | true =>
              have HS : Hid ((List.range (i + 1)).filter (forced cs nm d kn) = (List.range i).filter (forced cs nm d kn) ++ [i]) := Lib.hid (by rw [force_snoc, HFO.out]; simp)
              go_wp2_with (at_builtin; refine wpList_append_N rfl (.tmp 81) (.tmp 83) rfl rfl rfl (ho9.old ((Below.refl _ _).alloc (Nat.le_refl _) _) (Nat.le_refl _)) ((Blk.new wi #[Z i] _).at rfl) hll2.out (by simp; omega) ?_; intro g1 cap1 w6 hown6 hg6 hat6)
              have hne : ∀ r, (Value.slice la ((List.range i).filter (forced cs nm d kn)).length lc).ownBlock = some r → B0 + 1 ≤ r := fun r e => (ownsRow_cells HOK.out e).1
              refine ⟨⟨i + 1, by omega, by go_num, by rw [HS.out]; exact hown6, (hbk.alloc (by omega) _).trans (below_grown hg6 (fun r e => by have := hne r e; omega) (by simp; omega)), (qk.alloc _).kept hg6 (fun e => by have := hne B0 e.symm; omega)⟩, by simp [intOf]; omega⟩
    · obtain rfl : i = n := by omega
      have HF : Hid ((List.range i).filter (forced cs nm d kn) = forceL cs nm d kn) := Lib.hid (by unfold forceL; rw [HN.out])
      have hown2 : OwnN B0 wo (.slice la ((List.range i).filter (forced cs nm d kn)).length lc) (forceL cs nm d kn) := by rw [← HF.out]; exact hown.mono (by omega)
      have HO := Lib.hid hown2
      clear hown hown2
      go_wp2_with fail
      go_ret
      exact ⟨_, rfl, HO.out, hbr⟩
end Go.Proofs.YthooiobhlbnaoaaGreat
