/- Contracts and plain laws, several texts in one (GHold1, GHoldS, GHold2, GHold3). No conditions beyond those stated. -/
import Derived.Test.YthooiobhlbnaoaaGreatGaVal
import Derived.Test.YthooiobhlbnaoaaGreatGaScl
namespace Go.Proofs.YthooiobhlbnaoaaGreat
open Go.RowKit
set_option linter.unusedVariables false

/-- Whether a test that belongs to a scale holds in a cell, and whether the scale has its cut. -/
def testH (t : Tq) (s : Sc) (c : Int) : Bool × Bool :=
  if t.kd = 0 then (c == 1, true) else if fnd s.cuts t.cut = false then (false, false)
  else if t.op = 14 then (c == 2 * (srch s.cuts t.cut : Int) + 1, true)
  else if t.snd = true then (decide (2 * (srch s.cuts t.cut : Int) + 1 < c), true) else (decide (c < 2 * (srch s.cuts t.cut : Int) + 1), true)

set_option maxRecDepth 100000 in
set_option maxHeartbeats 8000000 in
theorem tholds_any (K : Nat) (t : Tq) (s : Sc) (c : Int) (x : Tv) (y : Sv) (w : World) (ht : TqX K w t x) (hs : ScX K w s y) (hK : K ≤ w.heap.size) (hcc : CutsOk s.kd s.cuts) (htk : t.kd ≠ 0 → t.cut.good = true ∧ t.cut.ok = true ∧ t.cut.kd = s.kd) (hbig : s.cuts.length ≤ 2 ^ 38) :
    Calls Tryz.prog 81 #[x.agg, y.agg, .int .i64 c] w fun e w' => e = .returned (.tuple #[.bool (testH t s c).1, .bool (testH t s c).2]) ∧ Below w.heap.size w w' := by
  obtain ⟨W1, hW1⟩ : ∃ W1, (w.alloc (.cells x.cells 104)).alloc (.cells y.cells 48) = W1 := ⟨_, rfl⟩
  have b1 : Below w.heap.size w W1 := by rw [← hW1]; exact ((Below.refl _ _).alloc (Nat.le_refl _) _).alloc (by simp) _
  have q1 : Blk W1 w.heap.size x.cells 104 := by rw [← hW1]; exact (Blk.new w _ _).alloc _
  have q2 : Blk W1 (w.heap.size + 1) y.cells 48 := by
    rw [← hW1]
    have := Blk.new (w.alloc (.cells x.cells 104)) y.cells 48
    rwa [World.size_alloc] at this
  have s1 : W1.heap.size = w.heap.size + 2 := by rw [← hW1]; simp
  obtain ⟨B, hB⟩ : ∃ B, w.heap.size = B := ⟨_, rfl⟩
  have HB := Lib.hid hB
  have HW := Lib.hid hW1
  rw [hB] at hK b1 q1 q2 s1 ⊢
  have hcuts := hs.cuts.below b1 hK hK
  have hx1 := ht.cut.below b1 hK hK
  have hkd := hs.kd
  have htkd := ht.kd
  have htop := ht.op
  have htsn := ht.snd
  clear hB hW1 hs ht
  obtain ⟨va, vcap, hve, _, _⟩ := id hcuts.form
  obtain ⟨a1, m1, hv1, _⟩ := hx1.n.form
  obtain ⟨a2, m2, hv2, _⟩ := hx1.d.form
  have hvk := hx1.kd
  obtain ⟨⟨yop, ynm, yk, yb3, ⟨y4, y4n, y4m⟩, yb5, ⟨y6, y6n, y6m⟩, yi7, ⟨y8, y8n, y8m⟩⟩, sk, ⟨ca, cn, cm⟩⟩ := y
  dsimp only [Sl.val] at hve hkd hcuts
  simp only [Value.slice.injEq] at hve
  obtain ⟨rfl, rfl, rfl⟩ := hve
  subst hkd
  obtain ⟨l1n, hl1n⟩ : ∃ n, t.cut.l1.length = n := ⟨_, rfl⟩
  obtain ⟨l2n, hl2n⟩ : ∃ n, t.cut.l2.length = n := ⟨_, rfl⟩
  rw [hl1n] at hv1
  rw [hl2n] at hv2
  obtain ⟨⟨xop, xnm, xk, xb3, ⟨x4, x4n, x4m⟩, xb5, ⟨x6, x6n, x6m⟩, xi7, ⟨x8, x8n, x8m⟩⟩, tk, ⟨kx, f1, x1, f2, x2, xi⟩, to, tsn⟩ := x
  dsimp only at hv1 hv2 hvk htkd htop htsn hx1
  subst hv1 hv2
  have hsr : t.kd ≠ 0 → ∀ W, Below W1.heap.size W1 W → Calls Tryz.prog 61 #[.pointer (some ⟨B + 1, 0, none⟩), .agg #[.int .u8 kx, .bool f1, .slice a1 l1n m1, .bool f2, .slice a2 l2n m2, .int .i64 xi]] W fun e w' => e = .returned (.tuple #[.int .i64 (srch s.cuts t.cut), .bool (fnd s.cuts t.cut)]) ∧ Below W.heap.size W w' := fun h0 W hb => by
    obtain ⟨h1, h2, h3⟩ := htk h0
    have := hb.size
    have hq := q2.below hb q2.lt
    exact gsearch_any B (B + 1) 0 _ s.cuts s.kd t.cut ⟨kx, f1, .slice a1 l1n m1, f2, .slice a2 l2n m2, xi⟩ W (hcuts.below hb (by rw [s1]; omega) (Nat.le_refl _)) (hx1.below hb (by rw [s1]; omega) (Nat.le_refl _)) hcc h1 h2 h3 (by rw [s1] at this; omega) (hq.at rfl) (by rw [s1] at this; omega) hbig
  obtain ⟨n, hnl⟩ : ∃ n, s.cuts.length = n := ⟨_, rfl⟩
  rw [hnl] at q2 HW hbig ⊢
  have HSR := Lib.hid hsr
  have hsl : srch s.cuts t.cut ≤ n := by rw [← hnl]; exact srch_le _ _
  obtain ⟨C, hC⟩ : ∃ C, testH t s c = C := ⟨_, rfl⟩
  rw [hC]
  unfold testH at hC
  rw [← htkd, ← htop, ← htsn] at hC
  obtain ⟨kd, hkd⟩ : ∃ kd, s.kd = kd := ⟨_, rfl⟩
  rw [hkd] at HW q2 ⊢
  have HQ1 := Lib.hid q1
  have HQ2 := Lib.hid q2
  have d9 := q1.at (i := 9) (x := .int .u8 tk) rfl
  have d10 := q1.at (i := 10) (x := .int .u8 kx) rfl
  have d11 := q1.at (i := 11) (x := .bool f1) rfl
  have d12 := q1.at (i := 12) (x := .slice a1 l1n m1) rfl
  have d13 := q1.at (i := 13) (x := .bool f2) rfl
  have d14 := q1.at (i := 14) (x := .slice a2 l2n m2) rfl
  have d15 := q1.at (i := 15) (x := .int .i64 xi) rfl
  have ltB : B < W1.heap.size := by omega
  have HTK : Hid (tk ≠ 0 → t.kd ≠ 0) := Lib.hid fun h => by rw [← htkd]; exact h
  clear hl1n hl2n hcuts hx1 hnl q1 q2 hkd hsr hvk htkd htop htsn htk hcc
  by_cases h0 : tk = 0
  · subst h0
    rw [if_pos rfl] at hC
    subst hC
    go_enter Tryz.func81, Tryz.ntmps81
    go_upto_region 1 with fail
    simp only [HB.out]
    rw [HW.out]
    go_wp2_with fail
    go_ret2
    exact ⟨rfl, b1⟩
  · rw [if_neg h0] at hC
    have e0 : (tk == 0) = false := by simpa using h0
    have hsc := HSR.out (HTK.out h0) W1 (Below.refl _ _)
    obtain ⟨f, hf⟩ : ∃ f, fnd s.cuts t.cut = f := ⟨_, rfl⟩
    obtain ⟨r, hr⟩ : ∃ r, srch s.cuts t.cut = r := ⟨_, rfl⟩
    rw [hf, hr] at hsc hC
    rw [hr] at hsl
    have hw1 : IntKind.i64.wrap (2 * (r : Int)) = 2 * (r : Int) := IntWalk.i64_in _ (by omega)
    have hw2 : IntKind.i64.wrap (2 * (r : Int) + 1) = 2 * (r : Int) + 1 := IntWalk.i64_in _ (by omega)
    have HS := Lib.hid hsc
    clear hsc hf hr h0
    go_enter Tryz.func81, Tryz.ntmps81
    go_upto_region 1 with fail
    simp only [HB.out]
    rw [HW.out]
    go_wp2_with fail
    refine HS.out.mono ?_
    rintro e w2 ⟨rfl, hb2⟩
    clear d9 d10 d11 d12 d13 d14 d15
    have d16 := (HQ1.out.below hb2 ltB).at (i := 16) (x := .int .u8 to) rfl
    have d17 := (HQ1.out.below hb2 ltB).at (i := 17) (x := .bool tsn) rfl
    cases f with
    | false =>
      rw [if_pos rfl] at hC
      subst hC
      go_wp2_with fail
      go_ret2
      exact ⟨rfl, b1.trans (hb2.mono (by omega))⟩
    | true =>
      rw [if_neg (by simp)] at hC
      by_cases ho : to = 14
      · subst ho
        rw [if_pos rfl] at hC
        subst hC
        go_wp2_with fail
        go_ret2
        exact ⟨rfl, b1.trans (hb2.mono (by omega))⟩
      · rw [if_neg ho] at hC
        have e1 : (to == 14) = false := by simpa using ho
        cases tsn with
        | true =>
          rw [if_pos rfl] at hC
          subst hC
          go_wp2_with fail
          go_ret2
          exact ⟨rfl, b1.trans (hb2.mono (by omega))⟩
        | false =>
          rw [if_neg (by simp)] at hC
          subst hC
          go_wp2_with fail
          go_ret2
          exact ⟨rfl, b1.trans (hb2.mono (by omega))⟩
end Go.Proofs.YthooiobhlbnaoaaGreat
namespace Go.Proofs.YthooiobhlbnaoaaGreat
open Go.RowKit
set_option linter.unusedVariables false

/-- Whether a test holds in cells, and whether it belongs to a scale that has its cut. -/
def testC (l : List Sc) (cs : List Int) (e : Gx) : Bool × Bool :=
  if l.findIdx (testOf e).belongs < l.length then testH (testOf e) (l[l.findIdx (testOf e).belongs]?.getD default) (cs[l.findIdx (testOf e).belongs]?.getD 0) else (false, false)
def combG (o : Int) (f : Nat → Bool) : Bool := if o = 15 then f 0 && f 1 else if o = 16 then f 0 || f 1 else if o = 17 then !f 0 else if f 0 then f 1 else f 2
mutual
/-- Whether a condition holds in cells, and whether all its tests belong to scales. -/
def holdG (l : List Sc) (cs : List Int) : Gx → Bool × Bool
  | .mk o n v es => if (Gx.mk o n v es).settled then (v.i == 1, true) else if (Gx.mk o n v es).composed then (combG o fun k => ((holdL l cs es)[k]?.getD (false, true)).1, (holdL l cs es).all (·.2)) else testC l cs (.mk o n v es)
def holdL (l : List Sc) (cs : List Int) : List Gx → List (Bool × Bool)
  | [] => []
  | e :: r => holdG l cs e :: holdL l cs r
end
theorem holdL_map (l : List Sc) (cs : List Int) (es : List Gx) : holdL l cs es = es.map (holdG l cs) := by
  induction es with
  | nil => rw [holdL]; rfl
  | cons e r ih => rw [holdL, ih]; rfl
/-- What the argument number k gives. -/
def argH (l : List Sc) (cs : List Int) (e : Gx) (k : Nat) : Bool × Bool := ((e.args.map (holdG l cs))[k]?.getD (false, true))
theorem holdG_eq (l : List Sc) (cs : List Int) (e : Gx) : holdG l cs e = if e.settled then (e.v.i == 1, true) else if e.composed then (combG e.op fun k => (argH l cs e k).1, (e.args.map (holdG l cs)).all (·.2)) else testC l cs e := by
  cases e with
  | mk o n v es => rw [holdG, holdL_map]; rfl
theorem argH_at {l : List Sc} {cs : List Int} {e a : Gx} {k : Nat} (h : e.args[k]? = some a) : argH l cs e k = holdG l cs a := by
  unfold argH; rw [List.getElem?_map, h]; rfl
theorem composed_len {e : Gx} (h : e.composed = true) : e.args.length ≤ 3 := by
  unfold Gx.composed at h
  simp only [Bool.or_eq_true, Bool.and_eq_true, beq_iff_eq] at h
  omega
/-- All of the first j arguments' tests belong. -/
def belG (l : List Sc) (cs : List Int) (e : Gx) (j : Nat) : Bool := ((e.args.map (holdG l cs)).take j).all (·.2)
theorem belG_zero (l : List Sc) (cs : List Int) (e : Gx) : belG l cs e 0 = true := by unfold belG; simp
theorem belG_succ {l : List Sc} {cs : List Int} {e a : Gx} {j : Nat} (h : e.args[j]? = some a) : belG l cs e (j + 1) = (belG l cs e j && (holdG l cs a).2) := by
  unfold belG
  have hj := (List.getElem?_eq_some_iff.1 h).1
  have hj' : j < (e.args.map (holdG l cs)).length := by simpa using hj
  rw [List.take_succ_eq_append_getElem hj', List.all_append]
  have : (e.args.map (holdG l cs))[j] = holdG l cs a := by
    rw [List.getElem_map]; rw [List.getElem?_eq_getElem hj] at h; rw [Option.some.inj h]
  rw [this]; simp
theorem belG_all (l : List Sc) (cs : List Int) (e : Gx) : belG l cs e e.args.length = (e.args.map (holdG l cs)).all (·.2) := by
  unfold belG; rw [List.take_of_length_le (by simp)]
/-- The three truths of arguments, the first j of them known. -/
def vArr (f : Nat → Bool) (j : Nat) : Array Value := #[.bool (decide (0 < j) && f 0), .bool (decide (1 < j) && f 1), .bool (decide (2 < j) && f 2)]
theorem vArr_set {f : Nat → Bool} {j : Nat} (hj : j < 3) : (vArr f j).setIfInBounds j (.bool (f j)) = vArr f (j + 1) := by
  match j, hj with
  | 0, _ => simp [vArr]
  | 1, _ => simp [vArr]
  | 2, _ => simp [vArr]
theorem vArr_get {f : Nat → Bool} {n : Nat} (h : ∀ k, n ≤ k → f k = false) : vArr f n = #[.bool (f 0), .bool (f 1), .bool (f 2)] := by
  have h2 : ∀ k, (decide (k < n) && f k) = f k := fun k => by
    by_cases hk : k < n
    · simp [hk]
    · rw [h k (by omega)]; simp
  unfold vArr; rw [h2, h2, h2]
theorem argH_none {l : List Sc} {cs : List Int} {e : Gx} {k : Nat} (h : e.args.length ≤ k) : argH l cs e k = (false, true) := by
  unfold argH; rw [List.getElem?_eq_none (by simpa using h)]; rfl
/-- The scale number i is valid, and has the cell. -/
def cellB (l : List Sc) (cs : List Int) (i : Nat) : Bool := (l[i]?.getD default).okB && decide (0 ≤ cs[i]?.getD 0) && decide (cs[i]?.getD 0 < cntN (l[i]?.getD default).kd (l[i]?.getD default).cuts.length)
/-- Whether a condition holds in cells; the number of the error. -/
def holdsS (e : Gx) (l : List Sc) (cs : List Int) : Bool × Int :=
  if fits e = false ∨ cs.length ≠ l.length then (false, 2)
  else if (List.range l.length).any (fun i => !(cellB l cs i)) = true then (false, 2)
  else if (holdG l cs e).2 = false then (false, 2) else ((holdG l cs e).1, 0)
end Go.Proofs.YthooiobhlbnaoaaGreat
namespace Go.Proofs.YthooiobhlbnaoaaGreat
open Go.RowKit
set_option linter.unusedVariables false

/-- What the closure leaves: the mark's block aside, nothing has turned. -/
structure HdPost (bb : Nat) (b : Bool) (r : Bool × Bool) (W : World) (en : Ending) (W' : World) : Prop where
  en : en = .returned (.bool r.1)
  gr : W.grownBy W' (some bb)
  ct : Blk W' bb #[.bool (b && r.2)] 4
abbrev hdF (lb bb cb bf : Nat) : Value := .func (.func 77) #[] #[.pointer (some ⟨lb, 0, none⟩), .pointer (some ⟨bb, 0, none⟩), .pointer (some ⟨cb, 0, none⟩), .pointer (some ⟨bf, 0, none⟩)]
abbrev IntsX (K : Nat) (w : World) (v : Value) (cs : List Int) : Prop := RowsV 1 (fun i _ => .int .i64 (cs[i]?.getD 0)) K w v cs.length
/-- The places that the closure reads. -/
structure HdW (K lb bb cb bf : Nat) (l : List Sc) (cs : List Int) (lv cv : Value) (b : Bool) (W : World) : Prop where
  l : ScsX K W lv l
  c : IntsX K W cv cs
  qb : Blk W bb #[.bool b] 4
  ql : Blk W lb #[lv] 34
  qc : Blk W cb #[cv] 43
  qf : Blk W bf #[hdF lb bb cb bf] 99
theorem HdW.turn {K lb bb cb bf : Nat} {l : List Sc} {cs : List Int} {lv cv : Value} {b b' : Bool} {W W' : World} (h : HdW K lb bb cb bf l cs lv cv b W) (hK : K ≤ bb) (hg : W.grownBy W' (some bb)) (hq : Blk W' bb #[.bool b'] 4) : HdW K lb bb cb bf l cs lv cv b' W' := by
  have hb := below_of_grownBy hg (by have := h.qb.lt; omega) hK
  refine ⟨h.l.below hb (Nat.le_refl _) (Nat.le_refl _), h.c.below hb (Nat.le_refl _) (Nat.le_refl _), hq, h.ql.kept hg fun e => ?_, h.qc.kept hg fun e => ?_, h.qf.kept hg fun e => ?_⟩
  · cases e; exact absurd (h.ql.ty_ne h.qb) (by decide)
  · cases e; exact absurd (h.qc.ty_ne h.qb) (by decide)
  · cases e; exact absurd (h.qf.ty_ne h.qb) (by decide)
theorem HdW.grown {K lb bb cb bf : Nat} {l : List Sc} {cs : List Int} {lv cv : Value} {b : Bool} {W W' : World} (h : HdW K lb bb cb bf l cs lv cv b W) (hK : K ≤ bb) (hg : Below W.heap.size W W') : HdW K lb bb cb bf l cs lv cv b W' :=
  h.turn hK (grownBy_to (grown_below hg)) (h.qb.below hg h.qb.lt)

theorem HdW.put {K lb bb cb bf u : Nat} {l : List Sc} {cs : List Int} {lv cv : Value} {b : Bool} {W W' : World} {ar : Array Value} (h : HdW K lb bb cb bf l cs lv cv b W) (hu : Blk W u ar 127) (hK : K ≤ u) (hg : W.grownBy W' (some u)) : HdW K lb bb cb bf l cs lv cv b W' := by
  have hb := below_of_grownBy hg (by have := hu.lt; omega) hK
  refine ⟨h.l.below hb (Nat.le_refl _) (Nat.le_refl _), h.c.below hb (Nat.le_refl _) (Nat.le_refl _), h.qb.kept hg fun e => ?_, h.ql.kept hg fun e => ?_, h.qc.kept hg fun e => ?_, h.qf.kept hg fun e => ?_⟩
  · cases e; exact absurd (h.qb.ty_ne hu) (by decide)
  · cases e; exact absurd (h.ql.ty_ne hu) (by decide)
  · cases e; exact absurd (h.qc.ty_ne hu) (by decide)
  · cases e; exact absurd (h.qf.ty_ne hu) (by decide)
theorem grownBy_new {w w' w'' : World} {r : Option Nat} {u : Nat} (h : w.grownBy w' r) (h' : w'.grownBy w'' (some u)) (hu : w.heap.size ≤ u) : w.grownBy w'' r :=
  ⟨h'.os.trans h.os, h'.tape.trans h.tape, h'.output.trans h.output, Nat.le_trans h.size h'.size, fun k hk hr => (h'.block k (Nat.lt_of_lt_of_le hk h.size) (fun e => by cases e; omega)).trans (h.block k hk hr)⟩
theorem combG_eq {o : Int} {f : Nat → Bool} {x y z : Bool} (h0 : f 0 = x) (h1 : f 1 = y) (h2 : f 2 = z) : combG o f = if o = 15 then x && y else if o = 16 then x || y else if o = 17 then !x else if x = true then y else z := by
  subst h0; subst h1; subst h2; rfl
theorem sv_range {g : Nat → Sv} {w : World} {b o k n : Nat} (hc : ∀ i, i < n → ∀ j, j < 11 → w.cell? ⟨b, o + (i * 11 + j), none⟩ = some ((g i).cell j)) (hk : k < n) : w.rangeAt b (o + k * 11) (g k).cells.toList := by
  intro j v hj
  have hj' : j < 11 := (List.getElem?_eq_some_iff.1 hj).1
  have := sv_cell_at (g k) hj'
  rw [hj, Option.getD_some] at this
  rw [this, Nat.add_assoc]; exact hc k hk j hj'
theorem infoScaleN : (Tryz.prog.info? 48).map (fun i => i.size) = some 11 := by kernel_rfl

set_option maxRecDepth 100000 in
set_option maxHeartbeats 400000 in
theorem holdsF_at (K bb lb cb bf : Nat) (l : List Sc) (cs : List Int) (lv cv : Value) (hlen : cs.length = l.length) (hok : ∀ s ∈ l, CutsOk s.kd s.cuts ∧ s.cuts.length ≤ 2 ^ 38) (hKb : K ≤ bb) (m : Nat) : ∀ (e : Gx), e.parts ≤ m → e.parts ≤ 200 → e.good = true → ∀ (b : Bool) (x : Xv) (W : World), ExG K W e x → HdW K lb bb cb bf l cs lv cv b W →
      Calls Tryz.prog 77 #[x.agg, .pointer (some ⟨lb, 0, none⟩), .pointer (some ⟨bb, 0, none⟩), .pointer (some ⟨cb, 0, none⟩), .pointer (some ⟨bf, 0, none⟩)] W (HdPost bb b (holdG l cs e) W) := by
  induction m with
  | zero => intro e hm; cases e; rw [partsG_mk] at hm; omega
  | succ m ih =>
    intro e hm h200 hgood b x W h hW
    have hlt1 := hW.qb.lt
    have hKW : K ≤ W.heap.size := by omega
    obtain ⟨hop, hnm0, _, hv, g, hg, hgs⟩ := h.open
    obtain ⟨va, vcap, h8, hvl, hvm⟩ := hg.form
    have HX := Lib.hid h
    have hvi : x.i7 = e.v.i := hv.i
    clear hnm0
    obtain ⟨xop, xnm, kd, b3, ⟨a4, n4, m4⟩, b5, ⟨a6, n6, m6⟩, i7, ⟨a8, n8, m8⟩⟩ := x
    simp only [Sl.val, Value.slice.injEq] at h8
    obtain ⟨rfl, rfl, rfl⟩ := h8
    dsimp only at hvi hop
    have HGS : Hid (∀ (k : Nat) (a : Gx), e.args[k]? = some a → ExG K W a (g k) ∧ a.parts ≤ m ∧ a.parts ≤ 200 ∧ a.good = true) := Lib.hid fun k a ha => by
      have h1 := partsG_arg (List.mem_of_getElem? ha)
      rw [partsG_args] at hm h200
      exact ⟨hgs k a ha, by omega, by omega, good_args hgood a (List.mem_of_getElem? ha)⟩
    have HVI := Lib.hid hvi
    have HOP := Lib.hid hop
    have HGG := Lib.hid hg
    have HIH := Lib.hid ih
    have HHW := Lib.hid hW
    have HP : Hid (∀ r W', holdG l cs e = r → W.grownBy W' (some bb) → Blk W' bb #[.bool (b && r.2)] 4 → HdPost bb b (holdG l cs e) W (.returned (.bool r.1)) W') := Lib.hid fun r W' h1 h2 h3 => ⟨by rw [h1], h2, by rw [h1]; exact h3⟩
    obtain ⟨W1, hW1⟩ : ∃ W1, W.alloc (.cells (⟨xop, xnm, kd, b3, ⟨a4, n4, m4⟩, b5, ⟨a6, n6, m6⟩, i7, ⟨a8, e.args.length, m8⟩⟩ : Xv).cells 32) = W1 := ⟨_, rfl⟩
    have b1 : Below W.heap.size W W1 := by rw [← hW1]; exact (Below.refl _ _).alloc (Nat.le_refl _) _
    have q1 : Blk W1 W.heap.size (⟨xop, xnm, kd, b3, ⟨a4, n4, m4⟩, b5, ⟨a6, n6, m6⟩, i7, ⟨a8, e.args.length, m8⟩⟩ : Xv).cells 32 := by rw [← hW1]; exact Blk.new W _ _
    have s1 : W1.heap.size = W.heap.size + 1 := by rw [← hW1]; simp
    have hset := settled_any K e _ W1 (h.below b1 hKW (Nat.le_refl _)) hgood (by omega)
    have hcom : ∀ W2, Below W1.heap.size W1 W2 → Calls Tryz.prog 79 #[(⟨xop, xnm, kd, b3, ⟨a4, n4, m4⟩, b5, ⟨a6, n6, m6⟩, i7, ⟨a8, e.args.length, m8⟩⟩ : Xv).agg] W2 fun en w' => en = .returned (.bool e.composed) ∧ Below W2.heap.size W2 w' := fun W2 hb => composed_any K e _ W2 ((h.below b1 hKW (Nat.le_refl _)).below hb (by omega) (Nat.le_refl _))
    have HCOM := Lib.hid hcom
    have hheq := holdG_eq l cs e
    have HEQ := Lib.hid hheq
    have HQ1 := Lib.hid q1
    unfold maxLen at hvm
    have HW1 := Lib.hid hW1
    obtain ⟨d0, d1, d2, d3, d4, d5, d6, d7, d8⟩ := q1.nine
    clear h hgs hg ih hm hW1 hv hcom hheq q1 hW hvi hop
    go_enter Tryz.func77, Tryz.ntmps77
    go_upto_region 1 with fail
    rw [HW1.out]
    go_wp2_with fail
    refine hset.mono ?_
    rintro en w2 ⟨rfl, hb2⟩
    clear hset d0 d1 d2 d3 d4 d5 d6 d7 d8
    obtain ⟨rs, hrs⟩ : ∃ r, e.settled = r := ⟨_, rfl⟩
    rw [hrs]
    have b2 : Below W.heap.size W w2 := b1.trans (hb2.mono (by omega))
    have hq2 := HQ1.out.below hb2 (by omega)
    obtain ⟨d0, d1, d2, d3, d4, d5, d6, d7, d8⟩ := hq2.nine
    cases rs with
    | true =>
      have hx := HP.out (e.v.i == 1, true) w2 (by rw [HEQ.out, if_pos hrs]) (grownBy_to (grown_below b2)) (by simpa using HHW.out.qb.below b2 hlt1)
      rw [← HVI.out] at hx
      go_wp2_with fail
      go_ret
      exact hx
    | false =>
      go_wp2_with fail
      refine (HCOM.out w2 hb2).mono ?_
      rintro en w3 ⟨rfl, hb3⟩
      clear d0 d1 d2 d3 d4 d5 d6 d7 d8
      have b3' : Below W.heap.size W w3 := b2.trans (hb3.mono b2.size)
      have hq3 := hq2.below hb3 hq2.lt
      obtain ⟨rc, hrc⟩ : ∃ r, e.composed = r := ⟨_, rfl⟩
      rw [hrc]
      have hW3 := HHW.out.grown hKb b3'
      cases rc with
      | false =>
        have ht := testOf_any K e _ w3 (HX.out.below b3' hKW (Nat.le_refl _)) hgood (by have := b3'.size; omega)
        obtain ⟨d0, d1, d2, d3, d4, d5, d6, d7, d8⟩ := hq3.nine
        go_wp2_with fail
        refine ht.mono ?_
        rintro en w4 ⟨y, rfl, hty, hb4⟩
        clear ht d0 d1 d2 d3 d4 d5 d6 d7 d8
        have b4 : Below W.heap.size W w4 := b3'.trans (hb4.mono b3'.size)
        have hW4 := HHW.out.grown hKb b4
        obtain ⟨⟨yop, ynm, yk, yb3, ⟨y4, y4n, y4m⟩, yb5, ⟨y6, y6n, y6m⟩, yi7, ⟨y8, y8n, y8m⟩⟩, tk, ⟨kx, f1, x1, f2, x2, xi⟩, to, tsn⟩ := y
        obtain ⟨a1, m1, hv1, _⟩ := hty.cut.n.form
        obtain ⟨a2, m2, hv2, _⟩ := hty.cut.d.form
        obtain ⟨l1n, hl1n⟩ : ∃ n, (testOf e).cut.l1.length = n := ⟨_, rfl⟩
        obtain ⟨l2n, hl2n⟩ : ∃ n, (testOf e).cut.l2.length = n := ⟨_, rfl⟩
        rw [hl1n] at hv1
        rw [hl2n] at hv2
        dsimp only at hv1 hv2
        subst hv1 hv2
        clear hl1n hl2n
        have h1c : ∀ u ∈ (⟨⟨yop, ynm, yk, yb3, ⟨y4, y4n, y4m⟩, yb5, ⟨y6, y6n, y6m⟩, yi7, ⟨y8, y8n, y8m⟩⟩, tk, ⟨kx, f1, .slice a1 l1n m1, f2, .slice a2 l2n m2, xi⟩, to, tsn⟩ : Tv).cells, u.oneCell' = true := by simp [Value.oneCell']
        go_upto_region 5 with (refine wpList_store_new rfl 104 (.tmp 7) (.tmp 24) rfl (⟨⟨yop, ynm, yk, yb3, ⟨y4, y4n, y4m⟩, yb5, ⟨y6, y6n, y6m⟩, yi7, ⟨y8, y8n, y8m⟩⟩, tk, ⟨kx, f1, .slice a1 l1n m1, f2, .slice a2 l2n m2, xi⟩, to, tsn⟩ : Tv).cells _ infoTest rfl h1c w4.heap.size rfl rfl rfl ?_)
        generalize hW5 : w4.alloc _ = W5
        have s4 := b4.size
        have b5' : Below w4.heap.size w4 W5 := by rw [← hW5]; exact (Below.refl _ _).alloc (Nat.le_refl _) _
        have b5 : Below W.heap.size W W5 := b4.trans (b5'.mono s4)
        have q5 : Blk W5 w4.heap.size (⟨⟨yop, ynm, yk, yb3, ⟨y4, y4n, y4m⟩, yb5, ⟨y6, y6n, y6m⟩, yi7, ⟨y8, y8n, y8m⟩⟩, tk, ⟨kx, f1, .slice a1 l1n m1, f2, .slice a2 l2n m2, xi⟩, to, tsn⟩ : Tv).cells 104 := by rw [← hW5]; exact Blk.new w4 _ _
        have hW5' := HHW.out.grown hKb b5
        have hty5 := hty.below b5' (by omega) (Nat.le_refl _)
        have s5 := b5'.size
        obtain ⟨la, lc, hlv, _, hlm⟩ := hW5'.l.form
        unfold maxLen at hlm
        have hix := idxScale_any K (testOf e) _ lv l W5 hty5 hW5'.l (by omega)
        rw [hlv] at hix
        have c5 := hW5'.ql.one.1
        rw [hlv] at c5
        have HTC : Hid (holdG l cs e = testC l cs e) := Lib.hid (by rw [HEQ.out, if_neg (by rw [hrs]; simp), if_neg (by rw [hrc]; simp)])
        have HQ5 := Lib.hid q5
        have HTY := Lib.hid hty5
        have HB5 := Lib.hid b5
        have q5lt := q5.lt
        obtain ⟨u, hu⟩ : ∃ u, w4.heap.size = u := ⟨_, rfl⟩
        rw [hu] at HQ5 q5lt ⊢
        have HLV := Lib.hid hlv
        have qbl := hW5'.qb.lt
        obtain ⟨g2, hrow2, hsc2⟩ := hW5'.l
        have HR2 := Lib.hid hrow2
        have HC2 := Lib.hid hW5'.c
        have HS2 := Lib.hid hsc2
        have HHW5 := Lib.hid hW5'
        clear hrow2 hsc2 hW5 b5' hty hty5 q5 hu hW4 hW3 hq3 hq2 hb4 hb3 hb2 hW5' b5 hlv s4
        have HRG : Hid (W5.rangeAt u 0 (⟨⟨yop, ynm, yk, yb3, ⟨y4, y4n, y4m⟩, yb5, ⟨y6, y6n, y6m⟩, yi7, ⟨y8, y8n, y8m⟩⟩, tk, ⟨kx, f1, .slice a1 l1n m1, f2, .slice a2 l2n m2, xi⟩, to, tsn⟩ : Tv).cells.toList) := Lib.hid HQ5.out.range
        by_cases hi : l.findIdx (testOf e).belongs < l.length
        · obtain ⟨i, hie⟩ : ∃ i, l.findIdx (testOf e).belongs = i := ⟨_, rfl⟩
          have hixe : idxS l (testOf e) = (i : Int) := by unfold idxS; rw [if_pos hi, hie]
          rw [hixe] at hix
          have hbel := belongs_at hi
          rw [hie] at hbel hi
          obtain ⟨sb, so, scap, hse, _, _, hsb, hscl⟩ := HR2.out.pos (by omega)
          obtain ⟨kb, ko, kcap, hke, _, hkm, hkb, hkcl⟩ := HC2.out.pos (by omega)
          rw [HLV.out] at hse
          simp only [Value.slice.injEq, true_and] at hse
          obtain ⟨rfl, rfl⟩ := hse
          have hmem : l[i]?.getD default ∈ l := by rw [List.getElem?_eq_getElem hi]; exact List.getElem_mem hi
          obtain ⟨hcc, hbig⟩ := hok _ hmem
          have htq := testOf_ok hgood h200
          obtain ⟨sc, hsc⟩ : ∃ s, l[i]?.getD default = s := ⟨_, rfl⟩
          obtain ⟨y2, hy2⟩ : ∃ y, g2 i = y := ⟨_, rfl⟩
          obtain ⟨ci, hci⟩ : ∃ c, cs[i]?.getD 0 = c := ⟨_, rfl⟩
          have hx2 := HS2.out i hi
          rw [hsc, hy2] at hx2
          rw [hsc] at hcc hbig hbel
          have htk : (testOf e).kd ≠ 0 → (testOf e).cut.good = true ∧ (testOf e).cut.ok = true ∧ (testOf e).cut.kd = sc.kd := fun h => by
            obtain ⟨h1, h2, h3⟩ := htq.cut h
            exact ⟨h1, h2, by rw [h3, belongs_kd hbel]⟩
          have htc : ∀ W', Below W5.heap.size W5 W' → Calls Tryz.prog 81 #[(⟨⟨yop, ynm, yk, yb3, ⟨y4, y4n, y4m⟩, yb5, ⟨y6, y6n, y6m⟩, yi7, ⟨y8, y8n, y8m⟩⟩, tk, ⟨kx, f1, .slice a1 l1n m1, f2, .slice a2 l2n m2, xi⟩, to, tsn⟩ : Tv).agg, y2.agg, .int .i64 ci] W' fun e' w' => e' = .returned (.tuple #[.bool (testH (testOf e) sc ci).1, .bool (testH (testOf e) sc ci).2]) ∧ Below W'.heap.size W' w' := fun W' hb =>
            tholds_any K (testOf e) sc ci _ y2 W' (HTY.out.below hb (by omega) (Nat.le_refl _)) (hx2.below hb (by omega) (Nat.le_refl _)) (by have := hb.size; omega) hcc htk hbig
          obtain ⟨r, hr0⟩ : ∃ r, testH (testOf e) sc ci = r := ⟨_, rfl⟩
          rw [hr0] at htc
          have HR : Hid (holdG l cs e = r) := Lib.hid (by rw [HTC.out]; unfold testC; rw [hie, if_pos hi, hsc, hci]; exact hr0)
          have HT := Lib.hid htc
          have HSR : Hid (∀ W', Below W5.heap.size W5 W' → W'.rangeAt sb (so + i * 11) y2.cells.toList) := Lib.hid fun W' hb => by
            rw [← hy2]; exact sv_range (cells_below hb (by omega) hscl) hi
          have HKR : Hid (∀ W', Below W5.heap.size W5 W' → W'.cell? ⟨kb, ko + i, none⟩ = some (.int .i64 ci)) := Lib.hid fun W' hb => by
            have := cells_below hb (by omega) hkcl i (by omega) 0 (by omega)
            simpa [hci] using this
          have hkl : i < cs.length := by omega
          have HKE := Lib.hid hke
          have hsl : sb < W5.heap.size := by omega
          have hkl2 : kb < W5.heap.size := by omega
          clear hixe hie hbel hscl hkcl hcc hbig htq hx2 htk htc hr0 hmem hy2 hci hsc hke
          go_wp2_with (refine wpList_load_mid rfl 104 (.tmp 7) rfl u 0 rfl (⟨⟨yop, ynm, yk, yb3, ⟨y4, y4n, y4m⟩, yb5, ⟨y6, y6n, y6m⟩, yi7, ⟨y8, y8n, y8m⟩⟩, tk, ⟨kx, f1, .slice a1 l1n m1, f2, .slice a2 l2n m2, xi⟩, to, tsn⟩ : Tv).cells.toList _ HRG.out Tryz.underlying104 rfl infoTest ?_)
          refine hix.mono ?_
          rintro en w6 ⟨rfl, hb6⟩
          clear hix c5
          have b6 : Below W.heap.size W w6 := HB5.out.trans (hb6.mono HB5.out.size)
          have hs6 := hb6.size
          have hii : i < l.length := hi
          go_upto_region 9 with fail
          refine region_plain (fun W' => Below w6.heap.size w6 W') [] (by kernel_rfl) ?_
          have qS : (fun W' => Below w6.heap.size w6 W') w6.drew := below_quiet (Below.refl _ _)
          have hS5 : ∀ W', Below w6.heap.size w6 W' → Below W5.heap.size W5 W' := fun W' h => hb6.trans (h.mono hs6)
          refine wpAnyD_take (i := 0) (v := (⟨⟨yop, ynm, yk, yb3, ⟨y4, y4n, y4m⟩, yb5, ⟨y6, y6n, y6m⟩, yi7, ⟨y8, y8n, y8m⟩⟩, tk, ⟨kx, f1, .slice a1 l1n m1, f2, .slice a2 l2n m2, xi⟩, to, tsn⟩ : Tv).agg) rfl (by kernel_rfl) (by kernel_rfl) (by kernel_rfl) (by kernel_rfl) (by kernel_rfl) (fun _ _ _ h => h) (yieldsIf_load_mid (by kernel_rfl) 104 (.tmp 7) rfl u 0 rfl (⟨⟨yop, ynm, yk, yb3, ⟨y4, y4n, y4m⟩, yb5, ⟨y6, y6n, y6m⟩, yi7, ⟨y8, y8n, y8m⟩⟩, tk, ⟨kx, f1, .slice a1 l1n m1, f2, .slice a2 l2n m2, xi⟩, to, tsn⟩ : Tv).cells.toList _ (fun W' hS => (HQ5.out.below (hS5 W' hS) q5lt).range) Tryz.underlying104 rfl infoTest) qS ?_
          refine wpAnyD_take (i := 1) (v := .slice (some ⟨sb, so, none⟩) l.length lc) rfl (by kernel_rfl) (by kernel_rfl) (by kernel_rfl) (by kernel_rfl) (by kernel_rfl) (fun _ _ _ h => h) (.inl ⟨by kernel_rfl, fun W' hS => by have d0 := (HHW5.out.ql.below (hS5 W' hS) HHW5.out.ql.lt).one.1; rw [HLV.out] at d0; go_simp⟩) qS ?_
          refine wpAnyD_take (i := 2) (v := .int .i64 (i : Int)) rfl (by kernel_rfl) (by kernel_rfl) (by kernel_rfl) (by kernel_rfl) (by kernel_rfl) (fun _ _ _ h => h) (.inl ⟨by kernel_rfl, fun W' hS => by go_simp⟩) qS ?_
          refine wpAnyD_take (i := 3) (v := .pointer (some ⟨sb, so + i * 11, none⟩)) rfl (by kernel_rfl) (by kernel_rfl) (by kernel_rfl) (by kernel_rfl) (by kernel_rfl) (fun _ _ _ h => h) (.inl ⟨by kernel_rfl, fun W' hS => by go_simp⟩) qS ?_
          refine wpAnyD_take (i := 4) (v := y2.agg) rfl (by kernel_rfl) (by kernel_rfl) (by kernel_rfl) (by kernel_rfl) (by kernel_rfl) (fun _ _ _ h => h) (yieldsIf_load_mid (by kernel_rfl) 48 (.tmp 35) rfl sb (so + i * 11) rfl y2.cells.toList _ (fun W' hS => HSR.out W' (hS5 W' hS)) Tryz.underlying48 rfl infoScaleN) qS ?_
          refine wpAnyD_take (i := 5) (v := .slice (some ⟨kb, ko, none⟩) cs.length kcap) rfl (by kernel_rfl) (by kernel_rfl) (by kernel_rfl) (by kernel_rfl) (by kernel_rfl) (fun _ _ _ h => h) (.inl ⟨by kernel_rfl, fun W' hS => by have d0 := (HHW5.out.qc.below (hS5 W' hS) HHW5.out.qc.lt).one.1; rw [HKE.out] at d0; go_simp⟩) qS ?_
          refine wpAnyD_take (i := 6) (v := .int .i64 (i : Int)) rfl (by kernel_rfl) (by kernel_rfl) (by kernel_rfl) (by kernel_rfl) (by kernel_rfl) (fun _ _ _ h => h) (.inl ⟨by kernel_rfl, fun W' hS => by go_simp⟩) qS ?_
          refine wpAnyD_take (i := 7) (v := .pointer (some ⟨kb, ko + i, none⟩)) rfl (by kernel_rfl) (by kernel_rfl) (by kernel_rfl) (by kernel_rfl) (by kernel_rfl) (fun _ _ _ h => h) (.inl ⟨by kernel_rfl, fun W' hS => by go_simp⟩) qS ?_
          refine wpAnyD_take (i := 8) (v := .int .i64 ci) rfl (by kernel_rfl) (by kernel_rfl) (by kernel_rfl) (by kernel_rfl) (by kernel_rfl) (fun _ _ _ h => h) (.inl ⟨by kernel_rfl, fun W' hS => by have d0 := HKR.out W' (hS5 W' hS); go_simp⟩) qS ?_
          refine wpAnyD_one (i := 9) (by kernel_rfl) rfl (by kernel_rfl) ?_
          go_simp
          refine (HT.out _ (hS5 _ qS)).mono ?_
          rintro en w7 ⟨rfl, hb7⟩
          have qS6 : Below w6.heap.size w6 w7 := qS.trans (hb7.mono qS.size)
          refine ⟨qS6, ?_⟩
          obtain ⟨r1, r2⟩ := r
          dsimp only
          refine wpAnyD_take (i := 10) (v := .tuple #[.bool r1, .bool r2]) rfl (by kernel_rfl) (by kernel_rfl) (by kernel_rfl) (by kernel_rfl) (by kernel_rfl) (fun _ _ _ h => h) (.inl ⟨by kernel_rfl, fun W' hS => by go_simp⟩) qS6 ?_
          refine wpAnyD_take (i := 11) (v := .bool r1) rfl (by kernel_rfl) (by kernel_rfl) (by kernel_rfl) (by kernel_rfl) (by kernel_rfl) (fun _ _ _ h => h) (.inl ⟨by kernel_rfl, fun W' hS => by go_simp⟩) qS6 ?_
          refine wpAnyD_take (i := 12) (v := .bool r2) rfl (by kernel_rfl) (by kernel_rfl) (by kernel_rfl) (by kernel_rfl) (by kernel_rfl) (fun _ _ _ h => h) (.inl ⟨by kernel_rfl, fun W' hS => by go_simp⟩) qS6 ?_
          refine wpAnyD_take (i := 13) (v := .bool r1) rfl (by kernel_rfl) (by kernel_rfl) (by kernel_rfl) (by kernel_rfl) (by kernel_rfl) (fun _ _ _ h => h) (.inl ⟨by kernel_rfl, fun W' hS => by go_simp⟩) qS6 ?_
          refine wpAnyD_one (i := 14) (by kernel_rfl) rfl (by kernel_rfl) ?_
          go_simp
          refine wpAnyD_done (by kernel_rfl) ?_ _
          have b7 : Below W.heap.size W w7 := b6.trans (qS6.mono b6.size)
          obtain ⟨c7, f7⟩ := (HHW.out.grown hKb b7).qb.one
          have hx := HP.out (r1, r2) (w7.setCell ⟨bb, 0, none⟩ (.bool (b && r2))) HR.out (grownBy_then (grownBy_to (grown_below b7)) (grownBy_setCell _ _ _ _)) (by simpa using (HHW.out.grown hKb b7).qb.set (i := 0) (.bool (b && r2)))
          clear hb7 qS6 hb6 qS hS5 b6
          cases b with
          | false =>
            go_wp2_with fail
            go_ret
            exact hx
          | true =>
            go_wp2_with fail
            go_ret
            exact hx
        · have hixe : idxS l (testOf e) = -1 := by unfold idxS; rw [if_neg hi]
          rw [hixe] at hix
          have hr : holdG l cs e = (false, false) := by rw [HTC.out]; unfold testC; rw [if_neg hi]
          have HR := Lib.hid hr
          clear hixe hr hi
          go_wp2_with (refine wpList_load_mid rfl 104 (.tmp 7) rfl u 0 rfl (⟨⟨yop, ynm, yk, yb3, ⟨y4, y4n, y4m⟩, yb5, ⟨y6, y6n, y6m⟩, yi7, ⟨y8, y8n, y8m⟩⟩, tk, ⟨kx, f1, .slice a1 l1n m1, f2, .slice a2 l2n m2, xi⟩, to, tsn⟩ : Tv).cells.toList _ HRG.out Tryz.underlying104 rfl infoTest ?_)
          refine hix.mono ?_
          rintro en w6 ⟨rfl, hb6⟩
          clear hix c5
          have b6 : Below W.heap.size W w6 := HB5.out.trans (hb6.mono HB5.out.size)
          obtain ⟨c6, f6⟩ := (HHW.out.grown hKb b6).qb.one
          have hx := HP.out (false, false) (w6.setCell ⟨bb, 0, none⟩ (.bool false)) HR.out (grownBy_then (grownBy_to (grown_below b6)) (grownBy_setCell _ _ _ _)) (by simpa using (HHW.out.grown hKb b6).qb.set (i := 0) (.bool false))
          go_wp2_with fail
          go_ret
          exact hx
      | true =>
        have hlen3 := composed_len hrc
        have HCQ : Hid (holdG l cs e = (combG e.op fun k => (argH l cs e k).1, belG l cs e e.args.length)) := Lib.hid (by rw [HEQ.out, if_neg (by rw [hrs]; simp), if_pos hrc, belG_all])
        obtain ⟨d0, d1, d2, d3, d4, d5, d6, d7, d8⟩ := hq3.nine
        have HQ3 := Lib.hid hq3
        have HB3 := Lib.hid b3'
        clear hq2 hq3 b3' hb2 hb3 hrc hrs hW3
        go_upto_region 13 with fail
        generalize hV : w3.alloc _ = W4
        have hs3 := HB3.out.size
        have q4 : Blk W4 w3.heap.size (vArr (fun k => (argH l cs e k).1) 0) 127 := by rw [← hV]; exact Blk.new w3 _ _
        have b4' : Below w3.heap.size w3 W4 := by rw [← hV]; exact (Below.refl _ _).alloc (Nat.le_refl _) _
        have b4 : Below W.heap.size W W4 := HB3.out.trans (b4'.mono hs3)
        have s4 : W4.heap.size = w3.heap.size + 1 := by rw [← hV]; simp
        have hW4 : HdW K lb bb cb bf l cs lv cv (b && belG l cs e 0) W4 := by rw [belG_zero, Bool.and_true]; exact HHW.out.grown hKb b4
        have hq4 := HQ3.out.below b4' HQ3.out.lt
        have hq4lt := HQ3.out.lt
        obtain ⟨u, hu⟩ : ∃ u, w3.heap.size = u := ⟨_, rfl⟩
        rw [hu] at q4 s4 hs3 hq4lt ⊢
        obtain ⟨n, hn⟩ : ∃ n, e.args.length = n := ⟨_, rfl⟩
        have HN := Lib.hid hn
        have HGR4 := Lib.hid (grownBy_to (r := some bb) (grown_below b4))
        clear hV b4' b4 hu
        have d8 := hq4.at (i := 8) (x := .slice a8 e.args.length m8) rfl
        rw [hn] at d8 hlen3
        have HQ4 := Lib.hid hq4
        clear d0 d1 d2 d3 d4 d5 d6 d7 hq4
        simp only [HN.out]
        have hvm' : m8 ≤ 9223372036854775807 := hvm
        go_wp2_with fail
        clear d8
        go_loopw [52] (fun i wr => ∃ (k : Nat), k ≤ n ∧ i = .int .i64 k ∧ Blk wr u (vArr (fun k => (argH l cs e k).1) k) 127 ∧ HdW K lb bb cb bf l cs lv cv (b && belG l cs e k) wr ∧ W.grownBy wr (some bb) ∧ Blk wr W.heap.size (⟨xop, xnm, kd, b3, ⟨a4, n4, m4⟩, b5, ⟨a6, n6, m6⟩, i7, ⟨a8, e.args.length, m8⟩⟩ : Xv).cells 32) (fun i _ => n - (intOf i).toNat)
        case atStart => exact ⟨0, Nat.zero_le _, rfl, q4, hW4, HGR4.out, HQ4.out⟩
        case round =>
          obtain ⟨k, hk, rfl, rv, rW, hgr, rx⟩ := hrel
          have HRX := Lib.hid rx
          have HRW := Lib.hid rW
          have HGR := Lib.hid hgr
          have hrv := rv.lt
          have hsr := hgr.size
          by_cases hlt : k < n
          · have hlt' : k < e.args.length := by rw [HN.out]; exact hlt
            obtain ⟨ab, ao, acap, he, _, hcm, hbK, hc⟩ := HGG.out.pos (by omega)
            simp only [Sl.val, Value.slice.injEq, true_and] at he
            obtain ⟨rfl, rfl⟩ := he
            have hbr : Below K W wr := below_of_grownBy hgr hKW hKb
            obtain ⟨k0, k1, k2, k3, k4, k5, k6, k7, k8⟩ := ex_cells (cells_below hbr hbK hc) hlt'
            obtain ⟨ek, hek⟩ : ∃ ek, e.args[k]? = some ek := ⟨_, List.getElem?_eq_getElem hlt'⟩
            obtain ⟨hqe, hpm, hp2, hgd⟩ := HGS.out k ek hek
            obtain ⟨y, hy⟩ : ∃ y, g k = y := ⟨_, rfl⟩
            rw [hy] at hqe k0 k1 k2 k3 k4 k5 k6 k7 k8
            have hwr2 : Below wr.heap.size wr (wr.alloc (.cells y.cells 32)) := (Below.refl _ _).alloc (Nat.le_refl _) _
            have hcall := HIH.out ek hpm hp2 hgd (b && belG l cs e k) y (wr.alloc (.cells y.cells 32)) (hqe.below (hbr.alloc (by omega) _) (Nat.le_refl _) (Nat.le_refl _)) (rW.grown hKb hwr2)
            have f0 : wr.cell? ⟨bf, 0, none⟩ = some (hdF lb bb cb bf) := rW.qf.one.1
            have hbfl := rW.qf.lt
            have HEK := Lib.hid hek
            have hk3 : k < 3 := by omega
            have HV : Hid ((vArr (fun k => (argH l cs e k).1) k)[k]? = some (.bool false)) := Lib.hid (by
              match k, hk3 with
              | 0, _ => simp [vArr]
              | 1, _ => simp [vArr]
              | 2, _ => simp [vArr])
            have HRV := Lib.hid rv
            have ublt : u ≠ bb := fun h => by subst h; exact absurd (rv.ty_ne rW.qb) (by decide)
            clear hek hc hy hqe hpm hp2 hgd rv rW hgr rx hbr hwr2 hlt'
            go_wp2_with fail
            refine hcall.mono ?_
            rintro en W6 ⟨rfl, hg6, hct6⟩
            clear hcall k0 k1 k2 k3 k4 k5 k6 k7 k8 f0
            have hg6' : wr.grownBy W6 (some bb) := grownBy_then (World.grownBy_alloc wr _ _) hg6
            obtain ⟨t, ht⟩ : ∃ t, (holdG l cs ek).1 = t := ⟨_, rfl⟩
            rw [ht]
            have rv6 := HRV.out.kept hg6' (fun h => ublt (Option.some.inj h))
            have ck := rv6.at (i := k) HV.out
            have fv := rv6.free k
            have hW6 : HdW K lb bb cb bf l cs lv cv (b && belG l cs e (k + 1)) W6 := by
              have := HRW.out.turn hKb hg6' hct6
              rwa [Bool.and_assoc, ← belG_succ HEK.out] at this
            have hgs : W6.grownBy (W6.setCell ⟨u, k, none⟩ (.bool t)) (some u) := grownBy_setCell _ _ _ _
            have rv7 : Blk (W6.setCell ⟨u, k, none⟩ (.bool t)) u (vArr (fun k => (argH l cs e k).1) (k + 1)) 127 := by
              have h1 := rv6.set (i := k) (.bool t)
              have h2 : (vArr (fun k => (argH l cs e k).1) k).setIfInBounds k (.bool t) = vArr (fun k => (argH l cs e k).1) (k + 1) := by
                rw [← vArr_set hk3, argH_at HEK.out, ht]
              rw [h2] at h1
              exact h1
            have hW7 : HdW K lb bb cb bf l cs lv cv (b && belG l cs e (k + 1)) (W6.setCell ⟨u, k, none⟩ (.bool t)) := hW6.put rv6 (by omega) hgs
            have hgr7 : W.grownBy (W6.setCell ⟨u, k, none⟩ (.bool t)) (some bb) := grownBy_new (grownBy_then HGR.out hg6') hgs (by omega)
            have hx7 : Blk (W6.setCell ⟨u, k, none⟩ (.bool t)) W.heap.size (⟨xop, xnm, kd, b3, ⟨a4, n4, m4⟩, b5, ⟨a6, n6, m6⟩, i7, ⟨some ⟨ab, ao, none⟩, e.args.length, m8⟩⟩ : Xv).cells 32 := (HRX.out.kept hg6' (by simp; omega)).kept hgs (by simp; omega)
            clear hct6 hg6 rv6 hW6 hgs ht
            go_wp2_with fail
            exact ⟨⟨k + 1, by omega, by go_num, rv7, hW7, hgr7, hx7⟩, by simp [intOf]; omega⟩
          · obtain rfl : k = n := by omega
            have hF : ∀ j, k ≤ j → (argH l cs e j).1 = false := fun j hj => by rw [argH_none (by rw [HN.out]; exact hj)]
            rw [vArr_get hF] at rv
            obtain ⟨v0, v1, v2⟩ : _ ∧ _ ∧ _ := ⟨rv.at (i := 0) rfl, rv.at (i := 1) rfl, rv.at (i := 2) rfl⟩
            have HCQ' := HCQ.out
            rw [HN.out, ← HOP.out] at HCQ'
            obtain ⟨F0, hF0⟩ : ∃ f, (argH l cs e 0).1 = f := ⟨_, rfl⟩
            obtain ⟨F1, hF1⟩ : ∃ f, (argH l cs e 1).1 = f := ⟨_, rfl⟩
            obtain ⟨F2, hF2⟩ : ∃ f, (argH l cs e 2).1 = f := ⟨_, rfl⟩
            rw [hF0] at v0
            rw [hF1] at v1
            rw [hF2] at v2
            obtain ⟨R, hR⟩ : ∃ R, combG xop (fun k => (argH l cs e k).1) = R := ⟨_, rfl⟩
            rw [hR] at HCQ'
            have hx := HP.out (R, belG l cs e k) wr HCQ' hgr rW.qb
            rw [combG_eq (f := fun k => (argH l cs e k).1) hF0 hF1 hF2] at hR
            have x0 := rx.at (i := 0) (x := .int .u8 xop) rfl
            have HHX := Lib.hid hx
            clear rv rW rx hgr hF hF0 hF1 hF2 HCQ' hx
            by_cases h15 : xop = 15
            · subst h15
              rw [if_pos rfl] at hR
              subst hR
              cases F0 <;>
              · go_wp2_with fail
                go_ret
                exact HHX.out
            · rw [if_neg h15] at hR
              have e15 : (xop == 15) = false := by simpa using h15
              by_cases h16 : xop = 16
              · subst h16
                rw [if_pos rfl] at hR
                subst hR
                cases F0 <;>
                · go_wp2_with fail
                  go_ret
                  exact HHX.out
              · rw [if_neg h16] at hR
                have e16 : (xop == 16) = false := by simpa using h16
                by_cases h17 : xop = 17
                · subst h17
                  rw [if_pos rfl] at hR
                  subst hR
                  go_wp2_with fail
                  go_ret
                  exact HHX.out
                · rw [if_neg h17] at hR
                  have e17 : (xop == 17) = false := by simpa using h17
                  cases F0 with
                  | true =>
                    rw [if_pos rfl] at hR
                    subst hR
                    go_wp2_with fail
                    go_ret
                    exact HHX.out
                  | false =>
                    rw [if_neg (by simp)] at hR
                    subst hR
                    go_wp2_with fail
                    go_ret
                    exact HHX.out
end Go.Proofs.YthooiobhlbnaoaaGreat
namespace Go.Proofs.YthooiobhlbnaoaaGreat
open Go.RowKit
set_option linter.unusedVariables false

theorem holdsS_bad {e : Gx} {l : List Sc} {cs : List Int} {i : Nat} (hi : i < l.length) (h : cellB l cs i = false) : holdsS e l cs = (false, 2) := by
  unfold holdsS
  split
  · rfl
  · rw [if_pos]
    rw [List.any_eq_true]
    exact ⟨i, List.mem_range.2 hi, by rw [h]; rfl⟩
theorem holdsS_ok {e : Gx} {l : List Sc} {cs : List Int} (hf : fits e = true) (hlen : cs.length = l.length) (h : ∀ i, i < l.length → cellB l cs i = true) : holdsS e l cs = if (holdG l cs e).2 = false then (false, 2) else ((holdG l cs e).1, 0) := by
  unfold holdsS
  rw [if_neg (by rw [hf]; simp [hlen]), if_neg]
  intro h2
  rw [List.any_eq_true] at h2
  obtain ⟨i, hi, hh⟩ := h2
  rw [h i (List.mem_range.1 hi)] at hh
  cases hh
theorem cellB_ok {l : List Sc} {cs : List Int} {i : Nat} (hi : i < l.length) (h : cellB l cs i = true) : (l[i]).okB = true := by
  unfold cellB at h
  rw [List.getElem?_eq_getElem hi] at h
  simp only [Bool.and_eq_true, Option.getD_some] at h
  exact h.1.1

set_option maxRecDepth 100000 in
set_option maxHeartbeats 400000 in
theorem gholds_any (K : Nat) (e : Gx) (x : Xv) (l : List Sc) (lv : Value) (cs : List Int) (cv : Value) (w : World) (he : ExG K w e x) (hg : e.good = true) (hl : ScsX K w lv l) (hc : IntsX K w cv cs) (hK : K ≤ w.heap.size) (hgo : ∀ s ∈ l, ∀ c ∈ s.cuts, c.good = true) (hbig : ∀ s ∈ l, s.cuts.length ≤ 2 ^ 38) :
    Calls Tryz.prog 28 #[x.agg, lv, cv] w fun en w' => en = .returned (.tuple #[.bool (holdsS e l cs).1, .int .i64 (holdsS e l cs).2]) ∧ Below w.heap.size w w' := by
  obtain ⟨la, lc, hlv, hll, hlm⟩ := hl.form
  obtain ⟨ca, cc, hcv, hcl, hcm⟩ := hc.form
  have HLV := Lib.hid hlv
  have HCV := Lib.hid hcv
  have HX := Lib.hid he
  have HL := Lib.hid hl
  have HC := Lib.hid hc
  have HGO := Lib.hid hgo
  have HBIG := Lib.hid hbig
  subst hlv hcv
  unfold maxLen at hlm hcm
  obtain ⟨xop, xnm, kd, b3, ⟨a4, n4, m4⟩, b5, ⟨a6, n6, m6⟩, i7, ⟨a8, n8, m8⟩⟩ := x
  obtain ⟨W1, hW1⟩ : ∃ W1, ((w.alloc (.cells (⟨xop, xnm, kd, b3, ⟨a4, n4, m4⟩, b5, ⟨a6, n6, m6⟩, i7, ⟨a8, n8, m8⟩⟩ : Xv).cells 32)).alloc (.cells #[.slice la l.length lc] 34)).alloc (.cells #[.slice ca cs.length cc] 43) = W1 := ⟨_, rfl⟩
  obtain ⟨b1, q0, q1, q2, s1⟩ := alloc3 w _ _ _ _ _ _ hW1
  obtain ⟨B, hB⟩ : ∃ B, w.heap.size = B := ⟨_, rfl⟩
  have HB := Lib.hid hB
  rw [hB] at hK b1 q0 q1 q2 s1 ⊢
  have HW := Lib.hid hW1
  have hsz := sized_any K e _ W1 (he.below b1 hK (Nat.le_refl _)) (by omega)
  have HQ0 := Lib.hid q0
  have HQ1 := Lib.hid q1
  have HQ2 := Lib.hid q2
  obtain ⟨R, hR⟩ : ∃ R, holdsS e l cs = R := ⟨_, rfl⟩
  rw [hR]
  have HR := Lib.hid hR
  obtain ⟨n, hn⟩ : ∃ n, l.length = n := ⟨_, rfl⟩
  obtain ⟨k0, hk0⟩ : ∃ k, cs.length = k := ⟨_, rfl⟩
  rw [hn] at hll HW ⊢
  rw [hk0] at hcl HW ⊢
  have HN := Lib.hid hn
  have HK0 := Lib.hid hk0
  obtain ⟨d0, d1, d2, d3, d4, d5, d6, d7, d8⟩ := q0.nine
  obtain ⟨ft, hft⟩ : ∃ f, fits e = f := ⟨_, rfl⟩
  rw [hft] at hsz
  have HFT := Lib.hid hft
  clear he hl hc hgo hbig hB hW1 q0 q1 q2 hR hn hk0 hft
  go_enter Tryz.func28, Tryz.ntmps28
  go_upto_region 1 with fail
  simp only [HB.out]
  rw [HW.out]
  cases ft with
  | false =>
    have hr : R = (false, 2) := by rw [← HR.out]; unfold holdsS; rw [if_pos (.inl HFT.out)]
    subst hr
    go_wp2_with fail
    refine hsz.mono ?_
    rintro en w2 ⟨rfl, hb2⟩
    go_wp2_with fail
    go_ret2
    exact ⟨rfl, b1.trans (hb2.mono (by omega))⟩
  | true =>
    go_wp2_with fail
    refine hsz.mono ?_
    rintro en w2 ⟨rfl, hb2⟩
    clear hsz d0 d1 d2 d3 d4 d5 d6 d7 d8
    have hs2 := hb2.size
    have c1 := (HQ1.out.below hb2 (by omega)).one.1
    have c2 := (HQ2.out.below hb2 (by omega)).one.1
    rw [HN.out] at c1
    rw [HK0.out] at c2
    by_cases hlen : k0 = n
    · subst hlen
      have e0 : ((k0 : Int) != (k0 : Int)) = false := by simp
      have HB2 := Lib.hid hb2
      go_wp2_with fail
      go_loopw [25] (fun i wr => ∃ (j : Nat), j ≤ k0 ∧ i = .int .i64 j ∧ Below W1.heap.size W1 wr ∧ Hid (∀ i, i < j → cellB l cs i = true)) (fun i _ => k0 - (intOf i).toNat)
      case atStart => exact ⟨0, Nat.zero_le _, rfl, HB2.out, Lib.hid fun i hi => absurd hi (Nat.not_lt_zero i)⟩
      case round =>
        obtain ⟨j, hj, rfl, hbr, HALL⟩ := hrel
        have hsr := hbr.size
        by_cases hlt : j < k0
        · obtain ⟨g, hg0, hgs⟩ := HL.out
          obtain ⟨sb, so, scap, hse, _, hsm, hsb, hscl⟩ := hg0.pos (by rw [HN.out]; omega)
          simp only [Value.slice.injEq, true_and] at hse
          obtain ⟨rfl, rfl⟩ := hse
          have hyx := hgs j (by rw [HN.out]; exact hlt)
          have hscl2 := cells_below (b1.trans (hbr.mono (by omega))) (show sb < B by omega) hscl
          have hrg := sv_range hscl2 (show j < l.length by rw [HN.out]; exact hlt)
          obtain ⟨kb, ko, kcap, hke, _, hkm, hkb, hkcl⟩ := HC.out.pos (by rw [HK0.out]; omega)
          simp only [Value.slice.injEq, true_and] at hke
          obtain ⟨rfl, rfl⟩ := hke
          obtain ⟨y, hy⟩ : ∃ y, g j = y := ⟨_, rfl⟩
          obtain ⟨sc, hsc⟩ : ∃ s, l[j]?.getD default = s := ⟨_, rfl⟩
          obtain ⟨ci, hci⟩ : ∃ c, cs[j]?.getD 0 = c := ⟨_, rfl⟩
          rw [hsc, hy] at hyx
          rw [hy] at hrg
          have HRG := Lib.hid hrg
          have HKC : Hid (∀ W', Below w.heap.size w W' → W'.cell? ⟨kb, ko + j, none⟩ = some (.int .i64 ci)) := Lib.hid fun W' hb => by
            have := cells_below hb (by rw [HB.out]; omega) hkcl j (by rw [HK0.out]; exact hlt) 0 (by omega)
            simpa [hci] using this
          have HYX := Lib.hid hyx
          have HSC := Lib.hid hsc
          have HCI := Lib.hid hci
          obtain ⟨⟨yop, ynm, yk, yb3, ⟨y4, y4n, y4m⟩, yb5, ⟨y6, y6n, y6m⟩, yi7, ⟨y8, y8n, y8m⟩⟩, sk, ⟨sa, sn, sm⟩⟩ := y
          clear hg0 hgs hscl hscl2 hkcl hyx hrg hy hsc hci c1 c2
          have hsbl : sb < wr.heap.size := by omega
          go_upto_region 6 with (first
            | refine wpList_load_mid rfl 48 (.tmp 28) rfl sb (so + j * 11) rfl (⟨⟨yop, ynm, yk, yb3, ⟨y4, y4n, y4m⟩, yb5, ⟨y6, y6n, y6m⟩, yi7, ⟨y8, y8n, y8m⟩⟩, sk, ⟨sa, sn, sm⟩⟩ : Sv).cells.toList _ HRG.out Tryz.underlying48 rfl infoScaleN ?_
            | refine wpList_store_new rfl 48 (.tmp 9) (.tmp 29) rfl (⟨⟨yop, ynm, yk, yb3, ⟨y4, y4n, y4m⟩, yb5, ⟨y6, y6n, y6m⟩, yi7, ⟨y8, y8n, y8m⟩⟩, sk, ⟨sa, sn, sm⟩⟩ : Sv).cells _ infoScaleN rfl (by simp [Value.oneCell']) wr.heap.size rfl rfl rfl ?_)
          generalize hW3 : wr.alloc _ = W3
          have b3' : Below wr.heap.size wr W3 := by rw [← hW3]; exact (Below.refl _ _).alloc (Nat.le_refl _) _
          have q3 : Blk W3 wr.heap.size (⟨⟨yop, ynm, yk, yb3, ⟨y4, y4n, y4m⟩, yb5, ⟨y6, y6n, y6m⟩, yi7, ⟨y8, y8n, y8m⟩⟩, sk, ⟨sa, sn, sm⟩⟩ : Sv).cells 48 := by rw [← hW3]; exact Blk.new wr _ _
          have b3 : Below W1.heap.size W1 W3 := hbr.trans (b3'.mono hsr)
          have q3lt := q3.lt
          obtain ⟨u, hu⟩ : ∃ u, wr.heap.size = u := ⟨_, rfl⟩
          rw [hu] at q3 q3lt ⊢
          have hu2 : W1.heap.size ≤ u := by omega
          have hs3 := b3.size
          have hgo := HGO.out sc (by rw [← HSC.out, List.getElem?_eq_getElem (by rw [HN.out]; exact hlt)]; exact List.getElem_mem _)
          have hbg := HBIG.out sc (by rw [← HSC.out, List.getElem?_eq_getElem (by rw [HN.out]; exact hlt)]; exact List.getElem_mem _)
          have hyx3 := HYX.out.below (b1.trans (b3.mono (by omega))) hK (Nat.le_refl _)
          have hv : ∀ W', Below W3.heap.size W3 W' → Calls Tryz.prog 22 #[(⟨⟨yop, ynm, yk, yb3, ⟨y4, y4n, y4m⟩, yb5, ⟨y6, y6n, y6m⟩, yi7, ⟨y8, y8n, y8m⟩⟩, sk, ⟨sa, sn, sm⟩⟩ : Sv).agg] W' fun e w' => e = .returned (.bool sc.okB) ∧ Below W'.heap.size W' w' := fun W' hb => gvalid_any K sc _ W' (hyx3.below hb (by omega) (Nat.le_refl _)) (by have := hb.size; omega) hgo hbg
          have hkds : sk = sc.kd := hyx3.kd
          have hcls : sn = sc.cuts.length := by obtain ⟨_, _, h9, _, _⟩ := hyx3.cuts.form; simp only [Sl.val, Value.slice.injEq] at h9; exact h9.2.1
          have hcb : cellB l cs j = (sc.okB && decide (0 ≤ ci) && decide (ci < cntN sk sn)) := by unfold cellB; rw [HSC.out, HCI.out, hkds, hcls]
          have HCB := Lib.hid hcb
          have HV := Lib.hid hv
          have HBG : Hid (sn ≤ 2 ^ 38) := Lib.hid (by rw [hcls]; exact hbg)
          have HQ3 := Lib.hid q3
          have HB3 := Lib.hid b3
          have HBAD : Hid (cellB l cs j = false → R = (false, 2)) := Lib.hid fun h => by rw [← HR.out]; exact holdsS_bad (by rw [HN.out]; exact hlt) h
          obtain ⟨rv, hrv⟩ : ∃ r, sc.okB = r := ⟨_, rfl⟩
          rw [hrv] at hv hcb
          have HCB := Lib.hid hcb
          have HV := Lib.hid hv
          clear hW3 b3' q3 b3 hu hgo hbg hyx3 hkds hcls hcb hv hbr hrv
          refine region_plain (fun W' => Below W3.heap.size W3 W') [] (by kernel_rfl) ?_
          have qS : (fun W' => Below W3.heap.size W3 W') W3.drew := below_quiet (Below.refl _ _)
          have b13 : ∀ W', Below W3.heap.size W3 W' → Below W1.heap.size W1 W' := fun W' h => HB3.out.trans (h.mono hs3)
          refine wpAnyD_take (i := 0) (v := (⟨⟨yop, ynm, yk, yb3, ⟨y4, y4n, y4m⟩, yb5, ⟨y6, y6n, y6m⟩, yi7, ⟨y8, y8n, y8m⟩⟩, sk, ⟨sa, sn, sm⟩⟩ : Sv).agg) rfl (by kernel_rfl) (by kernel_rfl) (by kernel_rfl) (by kernel_rfl) (by kernel_rfl) (fun _ _ _ h => h) (yieldsIf_load_mid (by kernel_rfl) 48 (.tmp 9) rfl u 0 rfl (⟨⟨yop, ynm, yk, yb3, ⟨y4, y4n, y4m⟩, yb5, ⟨y6, y6n, y6m⟩, yi7, ⟨y8, y8n, y8m⟩⟩, sk, ⟨sa, sn, sm⟩⟩ : Sv).cells.toList _ (fun W' hS => (HQ3.out.below hS q3lt).range) Tryz.underlying48 rfl infoScaleN) qS ?_
          refine wpAnyD_one (i := 1) (by kernel_rfl) rfl (by kernel_rfl) ?_
          go_simp
          refine (HV.out _ qS).mono ?_
          rintro en w4 ⟨rfl, hb4⟩
          have qS4 : Below W3.heap.size W3 w4 := qS.trans (hb4.mono qS.size)
          refine ⟨qS4, ?_⟩
          clear hb4 qS
          cases rv with
          | false =>
            obtain rfl := HBAD.out (by rw [HCB.out]; rfl)
            refine wpAnyD_take (i := 2) (v := .bool true) rfl (by kernel_rfl) (by kernel_rfl) (by kernel_rfl) (by kernel_rfl) (by kernel_rfl) (fun _ _ _ h => h) (.inl ⟨by kernel_rfl, fun W' hS => by go_simp⟩) qS4 ?_
            refine wpAnyD_take (i := 3) (v := .bool true) rfl (by kernel_rfl) (by kernel_rfl) (by kernel_rfl) (by kernel_rfl) (by kernel_rfl) (fun _ _ _ h => h) (.inl ⟨by kernel_rfl, fun W' hS => by go_simp⟩) qS4 ?_
            refine wpAnyD_take (i := 4) (v := undef) rfl (by kernel_rfl) (by kernel_rfl) (by kernel_rfl) (by kernel_rfl) (by kernel_rfl) (fun _ _ _ h => h) (.inr ⟨by kernel_rfl, rfl⟩) qS4 ?_
            refine wpAnyD_take (i := 5) (v := undef) rfl (by kernel_rfl) (by kernel_rfl) (by kernel_rfl) (by kernel_rfl) (by kernel_rfl) (fun _ _ _ h => h) (.inr ⟨by kernel_rfl, rfl⟩) qS4 ?_
            refine wpAnyD_take (i := 6) (v := undef) rfl (by kernel_rfl) (by kernel_rfl) (by kernel_rfl) (by kernel_rfl) (by kernel_rfl) (fun _ _ _ h => h) (.inr ⟨by kernel_rfl, rfl⟩) qS4 ?_
            refine wpAnyD_take (i := 7) (v := undef) rfl (by kernel_rfl) (by kernel_rfl) (by kernel_rfl) (by kernel_rfl) (by kernel_rfl) (fun _ _ _ h => h) (.inr ⟨by kernel_rfl, rfl⟩) qS4 ?_
            refine wpAnyD_take (i := 8) (v := undef) rfl (by kernel_rfl) (by kernel_rfl) (by kernel_rfl) (by kernel_rfl) (by kernel_rfl) (fun _ _ _ h => h) (.inr ⟨by kernel_rfl, rfl⟩) qS4 ?_
            refine wpAnyD_take (i := 9) (v := .bool true) rfl (by kernel_rfl) (by kernel_rfl) (by kernel_rfl) (by kernel_rfl) (by kernel_rfl) (fun _ _ _ h => h) (.inl ⟨by kernel_rfl, fun W' hS => by go_simp⟩) qS4 ?_
            refine wpAnyD_take (i := 10) (v := .bool true) rfl (by kernel_rfl) (by kernel_rfl) (by kernel_rfl) (by kernel_rfl) (by kernel_rfl) (fun _ _ _ h => h) (.inl ⟨by kernel_rfl, fun W' hS => by go_simp⟩) qS4 ?_
            refine wpAnyD_take (i := 11) (v := undef) rfl (by kernel_rfl) (by kernel_rfl) (by kernel_rfl) (by kernel_rfl) (by kernel_rfl) (fun _ _ _ h => h) (.inr ⟨by kernel_rfl, rfl⟩) qS4 ?_
            refine wpAnyD_take (i := 12) (v := undef) rfl (by kernel_rfl) (by kernel_rfl) (by kernel_rfl) (by kernel_rfl) (by kernel_rfl) (fun _ _ _ h => h) (.inr ⟨by kernel_rfl, rfl⟩) qS4 ?_
            refine wpAnyD_take (i := 13) (v := undef) rfl (by kernel_rfl) (by kernel_rfl) (by kernel_rfl) (by kernel_rfl) (by kernel_rfl) (fun _ _ _ h => h) (.inr ⟨by kernel_rfl, rfl⟩) qS4 ?_
            refine wpAnyD_take (i := 14) (v := undef) rfl (by kernel_rfl) (by kernel_rfl) (by kernel_rfl) (by kernel_rfl) (by kernel_rfl) (fun _ _ _ h => h) (.inr ⟨by kernel_rfl, rfl⟩) qS4 ?_
            refine wpAnyD_take (i := 15) (v := undef) rfl (by kernel_rfl) (by kernel_rfl) (by kernel_rfl) (by kernel_rfl) (by kernel_rfl) (fun _ _ _ h => h) (.inr ⟨by kernel_rfl, rfl⟩) qS4 ?_
            refine wpAnyD_take (i := 16) (v := undef) rfl (by kernel_rfl) (by kernel_rfl) (by kernel_rfl) (by kernel_rfl) (by kernel_rfl) (fun _ _ _ h => h) (.inr ⟨by kernel_rfl, rfl⟩) qS4 ?_
            refine wpAnyD_take (i := 17) (v := .bool true) rfl (by kernel_rfl) (by kernel_rfl) (by kernel_rfl) (by kernel_rfl) (by kernel_rfl) (fun _ _ _ h => h) (.inl ⟨by kernel_rfl, fun W' hS => by go_simp⟩) qS4 ?_
            refine wpAnyD_done (by kernel_rfl) ?_ _
            go_simp
            iterate 14 go_step
            change bodyPost _ _ (fun en w' => en = .returned (.tuple #[.bool false, .int .i64 2]) ∧ Below B w w') .ret _ _
            go_ret2
            exact ⟨rfl, b1.trans ((b13 _ qS4).mono (by omega))⟩
          | true =>
            refine wpAnyD_take (i := 2) (v := .bool false) rfl (by kernel_rfl) (by kernel_rfl) (by kernel_rfl) (by kernel_rfl) (by kernel_rfl) (fun _ _ _ h => h) (.inl ⟨by kernel_rfl, fun W' hS => by go_simp⟩) qS4 ?_
            refine wpAnyD_take (i := 3) (v := .bool false) rfl (by kernel_rfl) (by kernel_rfl) (by kernel_rfl) (by kernel_rfl) (by kernel_rfl) (fun _ _ _ h => h) (.inl ⟨by kernel_rfl, fun W' hS => by go_simp⟩) qS4 ?_
            refine wpAnyD_take (i := 4) (v := .slice (some ⟨kb, ko, none⟩) k0 cc) rfl (by kernel_rfl) (by kernel_rfl) (by kernel_rfl) (by kernel_rfl) (by kernel_rfl) (fun _ _ _ h => h) (.inl ⟨by kernel_rfl, fun W' hS => by have d0 := (HQ2.out.below (b13 W' hS) (by omega)).one.1; rw [HK0.out] at d0; go_simp⟩) qS4 ?_
            refine wpAnyD_take (i := 5) (v := .int .i64 (j : Int)) rfl (by kernel_rfl) (by kernel_rfl) (by kernel_rfl) (by kernel_rfl) (by kernel_rfl) (fun _ _ _ h => h) (.inl ⟨by kernel_rfl, fun W' hS => by go_simp⟩) qS4 ?_
            refine wpAnyD_take (i := 6) (v := .pointer (some ⟨kb, ko + j, none⟩)) rfl (by kernel_rfl) (by kernel_rfl) (by kernel_rfl) (by kernel_rfl) (by kernel_rfl) (fun _ _ _ h => h) (.inl ⟨by kernel_rfl, fun W' hS => by go_simp⟩) qS4 ?_
            refine wpAnyD_take (i := 7) (v := .int .i64 ci) rfl (by kernel_rfl) (by kernel_rfl) (by kernel_rfl) (by kernel_rfl) (by kernel_rfl) (fun _ _ _ h => h) (.inl ⟨by kernel_rfl, fun W' hS => by have d0 := HKC.out W' (HB.out.symm ▸ (b1.trans ((b13 W' hS).mono (by omega)))); go_simp⟩) qS4 ?_
            by_cases h0 : ci < 0
            · obtain rfl := HBAD.out (by rw [HCB.out]; simp; omega)
              have e0 : decide (ci < 0) = true := by simp; omega
              refine wpAnyD_take (i := 8) (v := .bool true) rfl (by kernel_rfl) (by kernel_rfl) (by kernel_rfl) (by kernel_rfl) (by kernel_rfl) (fun _ _ _ h => h) (.inl ⟨by kernel_rfl, fun W' hS => by go_simp⟩) qS4 ?_
              refine wpAnyD_take (i := 9) (v := .bool true) rfl (by kernel_rfl) (by kernel_rfl) (by kernel_rfl) (by kernel_rfl) (by kernel_rfl) (fun _ _ _ h => h) (.inl ⟨by kernel_rfl, fun W' hS => by go_simp⟩) qS4 ?_
              refine wpAnyD_take (i := 10) (v := .bool true) rfl (by kernel_rfl) (by kernel_rfl) (by kernel_rfl) (by kernel_rfl) (by kernel_rfl) (fun _ _ _ h => h) (.inl ⟨by kernel_rfl, fun W' hS => by go_simp⟩) qS4 ?_
              refine wpAnyD_take (i := 11) (v := undef) rfl (by kernel_rfl) (by kernel_rfl) (by kernel_rfl) (by kernel_rfl) (by kernel_rfl) (fun _ _ _ h => h) (.inr ⟨by kernel_rfl, rfl⟩) qS4 ?_
              refine wpAnyD_take (i := 12) (v := undef) rfl (by kernel_rfl) (by kernel_rfl) (by kernel_rfl) (by kernel_rfl) (by kernel_rfl) (fun _ _ _ h => h) (.inr ⟨by kernel_rfl, rfl⟩) qS4 ?_
              refine wpAnyD_take (i := 13) (v := undef) rfl (by kernel_rfl) (by kernel_rfl) (by kernel_rfl) (by kernel_rfl) (by kernel_rfl) (fun _ _ _ h => h) (.inr ⟨by kernel_rfl, rfl⟩) qS4 ?_
              refine wpAnyD_take (i := 14) (v := undef) rfl (by kernel_rfl) (by kernel_rfl) (by kernel_rfl) (by kernel_rfl) (by kernel_rfl) (fun _ _ _ h => h) (.inr ⟨by kernel_rfl, rfl⟩) qS4 ?_
              refine wpAnyD_take (i := 15) (v := undef) rfl (by kernel_rfl) (by kernel_rfl) (by kernel_rfl) (by kernel_rfl) (by kernel_rfl) (fun _ _ _ h => h) (.inr ⟨by kernel_rfl, rfl⟩) qS4 ?_
              refine wpAnyD_take (i := 16) (v := undef) rfl (by kernel_rfl) (by kernel_rfl) (by kernel_rfl) (by kernel_rfl) (by kernel_rfl) (fun _ _ _ h => h) (.inr ⟨by kernel_rfl, rfl⟩) qS4 ?_
              refine wpAnyD_take (i := 17) (v := .bool true) rfl (by kernel_rfl) (by kernel_rfl) (by kernel_rfl) (by kernel_rfl) (by kernel_rfl) (fun _ _ _ h => h) (.inl ⟨by kernel_rfl, fun W' hS => by go_simp⟩) qS4 ?_
              refine wpAnyD_done (by kernel_rfl) ?_ _
              go_simp
              iterate 14 go_step
              change bodyPost _ _ (fun en w' => en = .returned (.tuple #[.bool false, .int .i64 2]) ∧ Below B w w') .ret _ _
              go_ret2
              exact ⟨rfl, b1.trans ((b13 _ qS4).mono (by omega))⟩
            · have e0 : decide (ci < 0) = false := by simp; omega
              refine wpAnyD_take (i := 8) (v := .bool false) rfl (by kernel_rfl) (by kernel_rfl) (by kernel_rfl) (by kernel_rfl) (by kernel_rfl) (fun _ _ _ h => h) (.inl ⟨by kernel_rfl, fun W' hS => by go_simp⟩) qS4 ?_
              refine wpAnyD_take (i := 9) (v := .bool false) rfl (by kernel_rfl) (by kernel_rfl) (by kernel_rfl) (by kernel_rfl) (by kernel_rfl) (fun _ _ _ h => h) (.inl ⟨by kernel_rfl, fun W' hS => by go_simp⟩) qS4 ?_
              refine wpAnyD_take (i := 10) (v := .bool false) rfl (by kernel_rfl) (by kernel_rfl) (by kernel_rfl) (by kernel_rfl) (by kernel_rfl) (fun _ _ _ h => h) (.inl ⟨by kernel_rfl, fun W' hS => by go_simp⟩) qS4 ?_
              refine wpAnyD_take (i := 11) (v := .slice (some ⟨kb, ko, none⟩) k0 cc) rfl (by kernel_rfl) (by kernel_rfl) (by kernel_rfl) (by kernel_rfl) (by kernel_rfl) (fun _ _ _ h => h) (.inl ⟨by kernel_rfl, fun W' hS => by have d0 := (HQ2.out.below (b13 W' hS) (by omega)).one.1; rw [HK0.out] at d0; go_simp⟩) qS4 ?_
              refine wpAnyD_take (i := 12) (v := .int .i64 (j : Int)) rfl (by kernel_rfl) (by kernel_rfl) (by kernel_rfl) (by kernel_rfl) (by kernel_rfl) (fun _ _ _ h => h) (.inl ⟨by kernel_rfl, fun W' hS => by go_simp⟩) qS4 ?_
              refine wpAnyD_take (i := 13) (v := .pointer (some ⟨kb, ko + j, none⟩)) rfl (by kernel_rfl) (by kernel_rfl) (by kernel_rfl) (by kernel_rfl) (by kernel_rfl) (fun _ _ _ h => h) (.inl ⟨by kernel_rfl, fun W' hS => by go_simp⟩) qS4 ?_
              refine wpAnyD_take (i := 14) (v := .int .i64 ci) rfl (by kernel_rfl) (by kernel_rfl) (by kernel_rfl) (by kernel_rfl) (by kernel_rfl) (fun _ _ _ h => h) (.inl ⟨by kernel_rfl, fun W' hS => by have d0 := HKC.out W' (HB.out.symm ▸ (b1.trans ((b13 W' hS).mono (by omega)))); go_simp⟩) qS4 ?_
              refine wpAnyD_one (i := 15) (by kernel_rfl) rfl (by kernel_rfl) ?_
              go_simp
              have q4 := HQ3.out.below qS4 q3lt
              refine (gcount_any u 0 sn sm sa sk w4 (q4.at (i := 9) rfl) (q4.at (i := 10) rfl) HBG.out).mono ?_
              rintro en w5 ⟨rfl, hb5⟩
              have qS5 : Below W3.heap.size W3 w5 := qS4.trans (hb5.mono qS4.size)
              refine ⟨qS5, ?_⟩
              obtain ⟨cn, hcn⟩ : ∃ c, cntN sk sn = c := ⟨_, rfl⟩
              have hcb := HCB.out
              rw [hcn] at hcb ⊢
              clear qS4 q4 hb5 hcn
              by_cases h1 : (cn : Int) ≤ ci
              · obtain rfl := HBAD.out (by rw [hcb]; simp; omega)
                have e1 : decide ((cn : Int) ≤ ci) = true := by simp; omega
                refine wpAnyD_take (i := 16) (v := .bool true) rfl (by kernel_rfl) (by kernel_rfl) (by kernel_rfl) (by kernel_rfl) (by kernel_rfl) (fun _ _ _ h => h) (.inl ⟨by kernel_rfl, fun W' hS => by go_simp⟩) qS5 ?_
                refine wpAnyD_take (i := 17) (v := .bool true) rfl (by kernel_rfl) (by kernel_rfl) (by kernel_rfl) (by kernel_rfl) (by kernel_rfl) (fun _ _ _ h => h) (.inl ⟨by kernel_rfl, fun W' hS => by go_simp⟩) qS5 ?_
                refine wpAnyD_done (by kernel_rfl) ?_ _
                go_simp
                iterate 14 go_step
                change bodyPost _ _ (fun en w' => en = .returned (.tuple #[.bool false, .int .i64 2]) ∧ Below B w w') .ret _ _
                go_ret2
                exact ⟨rfl, b1.trans ((b13 _ qS5).mono (by omega))⟩
              · have e1 : decide ((cn : Int) ≤ ci) = false := by simp; omega
                have hok : cellB l cs j = true := by rw [hcb]; simp; omega
                have HALL2 : Hid (∀ i, i < j + 1 → cellB l cs i = true) := Lib.hid fun i hi => by
                  by_cases h : i = j
                  · subst h; exact hok
                  · exact HALL.out i (by omega)
                clear hcb hok
                refine wpAnyD_take (i := 16) (v := .bool false) rfl (by kernel_rfl) (by kernel_rfl) (by kernel_rfl) (by kernel_rfl) (by kernel_rfl) (fun _ _ _ h => h) (.inl ⟨by kernel_rfl, fun W' hS => by go_simp⟩) qS5 ?_
                refine wpAnyD_take (i := 17) (v := .bool false) rfl (by kernel_rfl) (by kernel_rfl) (by kernel_rfl) (by kernel_rfl) (by kernel_rfl) (fun _ _ _ h => h) (.inl ⟨by kernel_rfl, fun W' hS => by go_simp⟩) qS5 ?_
                have b15 := b13 _ qS5
                refine wpAnyD_done (by kernel_rfl) ?_ _
                go_simp
                iterate 14 go_step
                change _ ∧ _
                go_roundw
                case rel => exact ⟨j + 1, by omega, by simp, b15, HALL2⟩
                case measure => simp [intOf]; omega
        · obtain rfl : j = k0 := by omega
          have hall : ∀ i, i < l.length → cellB l cs i = true := fun i hi => HALL.out i (by have := HN.out; omega)
          have hres := holdsS_ok HFT.out (by rw [HN.out, HK0.out]) hall
          rw [HR.out] at hres
          have hinf : (Tryz.prog.info? 99).map (fun i => i.size) = some 1 := by kernel_rfl
          have HRES := Lib.hid hres
          clear hres c1 c2 hall
          go_upto_region 11 with fail
          generalize hW2 : (wr.alloc _).alloc _ = W2
          have x2 : Below W1.heap.size W1 W2 := by rw [← hW2]; exact (hbr.alloc hsr _).alloc (by simp; omega) _
          have p1 : Blk W2 wr.heap.size #[.bool true] 4 := by rw [← hW2]; exact (Blk.new wr _ _).alloc _
          have p2 : Blk W2 (wr.heap.size + 1) #[.nilFunc] 99 := by
            rw [← hW2]
            have := Blk.new (wr.alloc (.cells #[.bool true] 4)) #[.nilFunc] 99
            rwa [World.size_alloc] at this
          obtain ⟨u, hu⟩ : ∃ u, wr.heap.size = u := ⟨_, rfl⟩
          rw [hu] at p1 p2 hsr ⊢
          clear hW2 hu hbr
          iterate 4 go_step
          refine wpList_store_val rfl 99 99 (.tmp 11) (.tmp 49) rfl (hdF (B + 1) u (B + 1 + 1) (u + 1)) .nilFunc (u + 1) p2 hinf rfl rfl rfl ?_
          intro W3 t1 t2 t3 t4
          have hx : Below W1.heap.size W1 W3 := x2.trans (t2 _ (by omega))
          have hs3 := hx.size
          have h1 := HQ1.out.below hx (by omega)
          have h2 := HQ2.out.below hx (by omega)
          have h3 := HL.out.below (b1.trans (hx.mono (by omega))) hK (show K ≤ W1.heap.size by omega)
          have h4 := HC.out.below (b1.trans (hx.mono (by omega))) hK (show K ≤ W1.heap.size by omega)
          rw [HN.out] at h1 h3
          rw [HK0.out] at h2 h4
          have hpb : Blk W3 u #[.bool true] 4 := p1.below (t2 (u + 1) (Nat.le_refl _)) (by omega)
          have hcl : HdW W1.heap.size (B + 1) u (B + 1 + 1) (u + 1) l cs (.slice la j lc) (.slice ca j cc) true W3 :=
            ⟨h3, by unfold IntsX; rw [HK0.out]; exact h4, hpb, h1, h2, t1⟩
          have hfit := HFT.out
          unfold fits at hfit
          simp only [Bool.and_eq_true, decide_eq_true_eq] at hfit
          have hoks : ∀ s ∈ l, CutsOk s.kd s.cuts ∧ s.cuts.length ≤ 2 ^ 38 := fun s hs => by
            obtain ⟨i, hi, rfl⟩ := List.mem_iff_getElem.1 hs
            exact ⟨okB_cutsOk (cellB_ok hi (HALL.out i (by have := HN.out; omega))) (HGO.out _ (List.getElem_mem hi)), HBIG.out _ (List.getElem_mem hi)⟩
          have hcall := holdsF_at W1.heap.size u (B + 1) (B + 1 + 1) (u + 1) l cs _ _ (by rw [HN.out, HK0.out]) hoks hsr e.parts e (Nat.le_refl _) hfit.1 hg true _ W3 (HX.out.below (b1.trans (hx.mono (by omega))) hK (show K ≤ W1.heap.size by omega)) hcl
          have f1 := t1.one.1
          obtain ⟨d0, d1, d2, d3, d4, d5, d6, d7, d8⟩ := (HQ0.out.below hx (by omega)).nine
          have hb3 : Below B w W3 := b1.trans (hx.mono (by omega))
          have ul : u < W3.heap.size := hpb.lt
          obtain ⟨G, hG⟩ : ∃ G, holdG l cs e = G := ⟨_, rfl⟩
          rw [hG] at hcall
          have hR2 := HRES.out
          rw [hG] at hR2
          clear p1 p2 x2 t2 t3 t4 h1 h2 h3 h4 hpb hcl hoks hfit hG t1 hx
          go_wp2_with fail
          refine hcall.mono ?_
          rintro en W4 ⟨rfl, hg4, hq4⟩
          clear hcall d0 d1 d2 d3 d4 d5 d6 d7 d8 f1
          have hb4 : Below B w W4 := hb3.trans (below_of_grownBy hg4 (by have := hb3.size; omega) (by omega))
          obtain ⟨g1, g2⟩ := G
          have c4 := hq4.one.1
          cases g2 with
          | false =>
            rw [if_pos rfl] at hR2
            subst hR2
            go_wp2_with fail
            go_ret2
            exact ⟨rfl, hb4⟩
          | true =>
            rw [if_neg (by simp)] at hR2
            subst hR2
            go_wp2_with fail
            go_ret2
            exact ⟨rfl, hb4⟩
    · have hr : R = (false, 2) := by rw [← HR.out]; unfold holdsS; rw [if_pos (.inr (by rw [HN.out, HK0.out]; exact hlen))]
      subst hr
      have e1 : ((k0 : Int) != (n : Int)) = true := by simp; omega
      have e2 : ((k0 : Int) == (n : Int)) = false := by simp; omega
      go_wp2_with fail
      go_ret2
      exact ⟨rfl, b1.trans (hb2.mono (by omega))⟩
end Go.Proofs.YthooiobhlbnaoaaGreat
