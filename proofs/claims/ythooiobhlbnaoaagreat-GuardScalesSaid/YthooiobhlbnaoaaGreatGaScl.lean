/- Contracts and plain laws, several texts in one (GWalk, GSized, GOwn, GOkS, GScl0, GScl). No conditions beyond those stated. -/
import Derived.Test.YthooiobhlbnaoaaGreatGaSea
import Derived.Test.YthooiobhlbnaoaaGreatOWalk
import Derived.Test.YthooiobhlbnaoaaGreatGaTim
import Derived.Great.BuildSlice
import Derived.Test.YthooiobhlbnaoaaGreatGaIns
namespace Go.Proofs.YthooiobhlbnaoaaGreat
open Go.RowKit
set_option linter.unusedVariables false
attribute [local go_sem] Oper.semAt_some

abbrev El := Tq × Tv
def elEnc (x : El) : Array Value := #[x.2.agg]
/-- The tests that lie in expressions. -/
def tsOf (e : Gx) : List Tq := e.tests.map testOf
def tsL (l : List Gx) : List Tq := (testsL l).map testOf
theorem testsL_append (a b : List Gx) : testsL (a ++ b) = testsL a ++ testsL b := by
  induction a with
  | nil => simp [testsL]
  | cons x r ih => rw [List.cons_append, testsL, testsL, ih, List.append_assoc]
theorem testsL_one (e : Gx) : testsL [e] = e.tests := by simp [testsL]
theorem tsL_take (es : List Gx) (k : Nat) (e : Gx) (h : es[k]? = some e) : tsL (es.take (k + 1)) = tsL (es.take k) ++ tsOf e := by
  have hk := (List.getElem?_eq_some_iff.1 h).1
  have : es[k] = e := by rw [List.getElem?_eq_getElem hk] at h; exact Option.some.inj h
  unfold tsL tsOf
  rw [List.take_succ_eq_append_getElem hk, testsL_append, this, testsL_one, List.map_append]
theorem tsL_drop (es : List Gx) (k : Nat) (e : Gx) (h : es[k]? = some e) : tsL es = tsL (es.take k) ++ (tsOf e ++ tsL (es.drop (k + 1))) := by
  have hk := (List.getElem?_eq_some_iff.1 h).1
  have h0 : es[k] = e := by rw [List.getElem?_eq_getElem hk] at h; exact Option.some.inj h
  have h1 : es = es.take k ++ (es[k] :: es.drop (k + 1)) := by rw [← List.drop_eq_getElem_cons hk, List.take_append_drop]
  conv => lhs; rw [h1, h0]
  unfold tsL tsOf
  rw [testsL_append, testsL, List.map_append, List.map_append]
theorem tests_mk (e : Gx) : e.tests = if e.settled then [] else if e.composed then testsL e.args else [e] := by cases e; rw [Gx.tests]; rfl

/-- What a call of walk leaves. -/
def WPost (K : Nat) (J Jx : List El → World → Prop) (pre : List El) (ts : List Tq) (W : World) (en : Ending) (W' : World) : Prop :=
  (en = .returned (.bool true) ∧ ∃ xs : List El, xs.map Prod.fst = ts ∧ J (pre ++ xs) W' ∧ Below K W W' ∧ W.heap.size ≤ W'.heap.size) ∨
  (en = .returned (.bool false) ∧ ∃ (xs : List El) (rest : List Tq), xs.map Prod.fst ++ rest = ts ∧ Jx (pre ++ xs) W')
theorem grown_below {w w' : World} (h : Below w.heap.size w w') : w.grownBy w' none := ⟨h.os, h.tape, h.output, h.size, fun k hk _ => h.block k hk⟩

set_option maxRecDepth 100000 in
set_option maxHeartbeats 2000000 in
theorem gwalk_in (l K : Nat) (P : Gx → Prop) (hP : ∀ e, P e → e.good = true ∧ ∀ a ∈ e.args, P a) (J Jx : List El → World → Prop) (hJ : ∀ s A B, J s A → A.grownBy B none → J s B)
    (hY : ∀ m pre x W, J pre W → TqX K W x.1 x.2 ∧ (∃ a, P a ∧ x.1 = testOf a) → YieldAt Fence.wide m Tryz.prog l (elEnc x) W fun e W' => (e = .returned (.bool true) ∧ J (pre ++ [x]) W' ∧ KpE K W W') ∨ (e = .returned (.bool false) ∧ Jx (pre ++ [x]) W' ∧ KpE K W W')) :
    ∀ (m : Nat) (e : Gx), e.parts ≤ m → ∀ (n : Nat) (x : Xv) (pre : List El) (W : World), ExG K W e x → P e → K ≤ W.heap.size → J pre W →
      CallsIn Fence.wide n Tryz.prog 95 #[x.agg, .func (.yield l) #[] #[]] W (WPost K J Jx pre (tsOf e) W) := by
  intro m
  induction m with
  | zero => intro e hm; cases e; rw [partsG_mk] at hm; omega
  | succ m ih =>
    intro e hm n x pre W h hp hK hj
    have hgood := (hP e hp).1
    obtain ⟨W1, hW1⟩ : ∃ W1, W.alloc (.cells x.cells 32) = W1 := ⟨_, rfl⟩
    have hb1 : Below K W W1 := hW1 ▸ (Below.refl K W).alloc hK _
    have hbs1 : Below W.heap.size W W1 := hW1 ▸ (Below.refl _ W).alloc (Nat.le_refl _) _
    have hs1 : W1.heap.size = W.heap.size + 1 := by rw [← hW1]; simp
    have q1 : Blk W1 W.heap.size x.cells 32 := hW1 ▸ Blk.new W _ _
    have hset := settled_any K e x W1 (h.below hb1 (Nat.le_refl _) (Nat.le_refl _)) hgood (by omega)
    have HX := Lib.hid h
    have HP := Lib.hid hp
    have HPP := Lib.hid hP
    have HJ := Lib.hid hJ
    have HY := Lib.hid hY
    have HM := Lib.hid hm
    have HIH := Lib.hid ih
    have HG := Lib.hid hgood
    have HJ0 := Lib.hid hj
    have HT := Lib.hid (tests_mk e)
    obtain ⟨cs, hcs⟩ : ∃ c, e.settled = c := ⟨_, rfl⟩
    obtain ⟨cc, hcc⟩ : ∃ c, e.composed = c := ⟨_, rfl⟩
    rw [hcs] at hset
    rw [hcs, hcc] at HT
    have HCC := Lib.hid hcc
    obtain ⟨x', hx'⟩ : ∃ x' : Xv, x' = x := ⟨_, rfl⟩
    rw [← hx'] at HX
    obtain ⟨xop, xnm, kd, b3, ⟨a4, n4, m4⟩, b5, ⟨a6, n6, m6⟩, i7, ⟨a8, n8, m8⟩⟩ := x
    have HX' := Lib.hid hx'
    have HW1 := Lib.hid hW1
    rw [← hW1] at hset
    dsimp only [Xv.cells, Xv.agg] at hset
    clear hW1 h hp hP hJ hY hm ih hgood hj hcs hcc hx'
    refine callsIn_of_wp Tryz.func95 rfl trivial ?_
    simp only [Tryz.ntmps95, List.size_toArray, List.length_cons, List.length_nil, Nat.reduceAdd, Nat.reduceSub, Array.replicate_succ, Array.replicate_zero, List.push_toArray, List.append_toArray, List.nil_append, List.cons_append]
    gi_wp2_with fail
    refine ⟨trivial, wide_depth, (callsIn_wide.2 hset).mono ?_⟩
    clear hset
    rintro en W2 ⟨rfl, hb2⟩
    rw [show W.alloc (.cells #[.int .u8 xop, S xnm, .int .u8 kd, .bool b3, .slice a4 n4 m4, .bool b5, .slice a6 n6 m6, .int .i64 i7, .slice a8 n8 m8] 32) = W1 from HW1.out] at hb2
    have hb3 : Below W.heap.size W W2 := hbs1.trans (hb2.mono (by omega))
    have hK2 : Below K W W2 := hb3.mono hK
    have hs2 := hb2.size
    have q2 := q1.below hb2 (by omega)
    cases cs with
    | true =>
      gi_wp2_with fail
      go_ret
      exact .inl ⟨rfl, [], by unfold tsOf; rw [HT.out]; rfl, by rw [List.append_nil]; exact HJ.out _ _ _ HJ0.out (grown_below hb3), hK2, by omega⟩
    | false =>
      obtain ⟨d0, d1, d2, d3, d4, d5, d6, d7, d8⟩ := q2.nine
      have hcom := composed_any K e x' W2 (HX.out.below hK2 (Nat.le_refl _) (Nat.le_refl _))
      rw [HCC.out] at hcom
      rw [HX'.out] at hcom
      dsimp only [Xv.cells, Xv.agg] at hcom
      gi_wp2_with fail
      refine ⟨trivial, wide_depth, (callsIn_wide.2 hcom).mono ?_⟩
      clear hcom d0 d1 d2 d3 d4 d5 d6 d7 d8
      rintro en W3 ⟨rfl, hb4⟩
      have hb5 : Below W.heap.size W W3 := hb3.trans (hb4.mono (by omega))
      have hK3 : Below K W W3 := hb5.mono hK
      have hs3 := hb4.size
      have q3 := q2.below hb4 (by omega)
      obtain ⟨d0, d1, d2, d3, d4, d5, d6, d7, d8⟩ := q3.nine
      cases cc with
      | false =>
        have hto := testOf_any K e x' W3 (HX.out.below hK3 (Nat.le_refl _) (Nat.le_refl _)) HG.out (by omega)
        rw [HX'.out] at hto
        dsimp only [Xv.cells, Xv.agg] at hto
        gi_wp2_with fail
        refine ⟨trivial, wide_depth, (callsIn_wide.2 hto).mono ?_⟩
        clear hto d0 d1 d2 d3 d4 d5 d6 d7 d8
        rintro en W4 ⟨y, rfl, hy4, hb6⟩
        have hb7 : Below W.heap.size W W4 := hb5.trans (hb6.mono (by omega))
        have hj4 : J pre W4 := HJ.out _ _ _ HJ0.out (grown_below hb7)
        obtain ⟨fn, tmps, assign, body, hyy, hR⟩ := HY.out (n - 1) pre (testOf e, y) W4 hj4 ⟨hy4, e, HP.out, rfl⟩
        unfold elEnc at hyy
        dsimp only at hyy
        gi_wp2_with fail
        refine ⟨wide_depth, hR.mono ?_⟩
        clear hR hyy
        have HTT : Hid (tsOf e = [testOf e]) := Lib.hid (by unfold tsOf; rw [HT.out]; rfl)
        rintro en W5 (⟨rfl, hj5, hk5⟩ | ⟨rfl, hj5, hk5⟩)
        · gi_wp2_with fail
          go_ret
          exact .inl ⟨rfl, [(testOf e, y)], by rw [HTT.out]; rfl, hj5, (hb7.mono hK).trans hk5.1, Nat.le_trans hb7.size hk5.1.size⟩
        · gi_wp2_with fail
          go_ret
          exact .inr ⟨rfl, [(testOf e, y)], [], by rw [HTT.out]; rfl, hj5⟩
      | true =>
        have HTT : Hid (tsOf e = tsL e.args) := Lib.hid (by unfold tsOf tsL; rw [HT.out]; rfl)
        obtain ⟨_, _, _, _, g, hg, hgs⟩ := HX.out.open
        rw [HX'.out] at hg
        obtain ⟨va, vcap, h8, hvl, hvm⟩ := hg.form
        simp only [Sl.val, Value.slice.injEq] at h8
        obtain ⟨rfl, rfl, rfl⟩ := h8
        have HGS : Hid (∀ (k : Nat) (a : Gx), e.args[k]? = some a → ExG K W a (g k) ∧ a.parts ≤ m ∧ P a) := Lib.hid fun k a ha => ⟨hgs k a ha, by
          have h1 := partsG_arg (List.mem_of_getElem? ha)
          have h2 := HM.out
          rw [partsG_args] at h2; omega, (HPP.out e HP.out).2 a (List.mem_of_getElem? ha)⟩
        have HGG := Lib.hid hg
        unfold maxLen at hvm
        clear hgs hg
        gi_wp2_with fail
        clear d0 d1 d2 d3 d4 d5 d6 d7 d8
        gi_loopw [19] (fun i wr => ∃ (k : Nat) (xs : List El), k ≤ e.args.length ∧ i = .int .i64 k ∧ xs.map Prod.fst = tsL (e.args.take k) ∧ J (pre ++ xs) wr ∧ Below K W wr ∧ W.heap.size ≤ wr.heap.size) (fun i _ => e.args.length - (intOf i).toNat)
        case atStart => exact ⟨0, [], Nat.zero_le _, rfl, by simp [tsL, testsL], by rw [List.append_nil]; exact HJ.out _ _ _ HJ0.out (grown_below hb5), hK3, by omega⟩
        case round =>
          obtain ⟨k, xs, hk, rfl, hxs, hjr, hbr, hsr⟩ := hrel
          by_cases hlt : k < e.args.length
          · obtain ⟨b, o, cap, he, _, hcm, hbK, hc⟩ := HGG.out.pos (by omega)
            simp only [Sl.val, Value.slice.injEq, true_and] at he
            obtain ⟨rfl, rfl⟩ := he
            obtain ⟨k0, k1, k2, k3, k4, k5, k6, k7, k8⟩ := ex_cells (cells_below hbr hbK hc) hlt
            obtain ⟨ek, hek⟩ : ∃ ek, e.args[k]? = some ek := ⟨_, List.getElem?_eq_getElem hlt⟩
            obtain ⟨hq, hpm, hpk⟩ := HGS.out k ek hek
            obtain ⟨y, hy⟩ : ∃ y, g k = y := ⟨_, rfl⟩
            rw [hy] at hq k0 k1 k2 k3 k4 k5 k6 k7 k8
            have hbl : Below K W (wr.alloc (.cells y.cells 32)) := hbr.alloc (by omega) _
            have hcall := HIH.out ek hpm (n - 1) y (pre ++ xs) (wr.alloc (.cells y.cells 32)) (hq.below hbl (Nat.le_refl _) (Nat.le_refl _)) hpk (by simp; omega) (HJ.out _ _ _ hjr (World.grownBy_alloc wr _ none))
            have HT1 : Hid (tsL (e.args.take (k + 1)) = tsL (e.args.take k) ++ tsOf ek) := Lib.hid (tsL_take e.args k ek hek)
            have HT2 : Hid (tsL e.args = tsL (e.args.take k) ++ (tsOf ek ++ tsL (e.args.drop (k + 1)))) := Lib.hid (tsL_drop e.args k ek hek)
            have HXS := Lib.hid hxs
            clear hek hc hxs hy hq hpm hpk
            gi_wp2_with fail
            refine ⟨trivial, wide_depth, hcall.mono ?_⟩
            clear hcall
            unfold WPost
            rintro en W6 (⟨rfl, ys, hys, hj6, hb6, hs6⟩ | ⟨rfl, ys, rest, hys, hj6⟩)
            · simp only [World.size_alloc] at hs6
              have HYS := Lib.hid hys
              clear hys
              gi_wp2_with fail
              refine ⟨⟨k + 1, xs ++ ys, by omega, by go_num, ?_, ?_, hbl.trans hb6, by omega⟩, by simp [intOf]; omega⟩
              · rw [List.map_append, HXS.out, HYS.out, HT1.out]
              · rw [← List.append_assoc]; exact hj6
            · have HYS := Lib.hid hys
              clear hys
              gi_wp2_with fail
              go_ret
              refine .inr ⟨rfl, xs ++ ys, rest ++ tsL (e.args.drop (k + 1)), ?_, by rw [← List.append_assoc]; exact hj6⟩
              rw [HTT.out, HT2.out, List.map_append, HXS.out, ← HYS.out]
              simp
          · obtain rfl : k = e.args.length := by omega
            rw [List.take_length] at hxs
            have HXS := Lib.hid hxs
            clear hxs
            gi_wp2_with fail
            go_ret
            exact .inl ⟨rfl, xs, by rw [HXS.out, HTT.out], hjr, hbr, hsr⟩

set_option maxHeartbeats 1000000 in
/-- The iterator that tests hands back. -/
theorem tests_iter (K Bx : Nat) (P : Gx → Prop) (hP : ∀ e, P e → e.good = true ∧ ∀ a ∈ e.args, P a) (e : Gx) (x : Xv) :
    IterSt (α := El) Tryz.prog 94 (fun i => #[] ++ #[.func (.yield i) #[] #[]] ++ #[.pointer (some ⟨Bx, 0, none⟩)]) elEnc (fun pre x W => TqX K W x.1 x.2 ∧ ∃ a, P a ∧ x.1 = testOf a) (fun A B => A.grownBy B none) (KpE K)
      (fun xs W => xs.map Prod.fst = tsOf e) (fun xs W => ∃ rest, xs.map Prod.fst ++ rest = tsOf e) (fun W => K ≤ W.heap.size ∧ Blk W Bx x.cells 32 ∧ ExG K W e x ∧ P e) := by
  rintro n i J Jx W ⟨hK, hq, hx, hp⟩ hJ hJx hY h0
  have hw := gwalk_in i K P hP J Jx hJ (fun m pre x W hj hl => YieldAt.anyDepth rfl m (hY pre x W hj hl)) _ e (Nat.le_refl _) (n - 1) x [] W hx hp hK h0
  obtain ⟨d0, d1, d2, d3, d4, d5, d6, d7, d8⟩ := hq.nine
  dsimp only [Xv.agg, Xv.cells] at hw
  clear hY hq hx hP
  refine callsIn_of_wp Tryz.func94 rfl trivial ?_
  simp only [Tryz.ntmps94, List.size_toArray, List.length_cons, List.length_nil, Nat.reduceAdd, Nat.reduceSub, Array.replicate_succ, Array.replicate_zero, List.push_toArray, List.append_toArray, List.nil_append, List.cons_append]
  gi_wp2_with fail
  refine ⟨trivial, wide_depth, hw.mono ?_⟩
  clear hw
  unfold WPost
  rintro en W3 (⟨rfl, ys, hys, hj3, _, _⟩ | ⟨rfl, ys, rest, hys, hj3⟩)
  · gi_wp2_with fail
    go_end0
    exact ⟨⟨_, rfl⟩, .inl ⟨ys, hys, by simpa using hj3⟩⟩
  · gi_wp2_with fail
    go_end0
    exact ⟨⟨_, rfl⟩, .inr ⟨ys, ⟨rest, hys⟩, by simpa using hj3⟩⟩

theorem tests_any (x : Xv) (w : World) : Calls Tryz.prog 49 #[x.agg] w fun e w' => e = .returned (.func (.func 94) #[] #[.pointer (some ⟨w.heap.size, 0, none⟩)]) ∧ w.alloc (.cells x.cells 32) = w' := by
  go_enter Tryz.func49, Tryz.ntmps49
  go_wp2_with fail
  go_ret
  exact ⟨rfl, rfl⟩
end Go.Proofs.YthooiobhlbnaoaaGreat
namespace Go.Proofs.YthooiobhlbnaoaaGreat
open Go.RowKit
set_option linter.unusedVariables false

theorem depthG_args (e : Gx) : e.depth = depthL e.args + 1 := by cases e; rw [Gx.depth]; rfl
theorem depthG_arg {es : List Gx} {e : Gx} (h : e ∈ es) : e.depth ≤ depthL es := by
  induction es with
  | nil => cases h
  | cons x r ih =>
    rw [depthL]
    rcases List.mem_cons.1 h with rfl | h
    · omega
    · have := ih h; omega
theorem depthL_le {es : List Gx} {n : Nat} (h : ∀ e ∈ es, e.depth ≤ n) : depthL es ≤ n := by
  induction es with
  | nil => simp [depthL]
  | cons x r ih =>
    rw [depthL]
    have h1 := h x (by simp)
    have h2 := ih fun e he => h e (List.mem_cons_of_mem _ he)
    omega
theorem partsL_append (a b : List Gx) : partsL (a ++ b) = partsL a + partsL b := by
  induction a with
  | nil => simp [partsL]
  | cons x r ih => rw [List.cons_append, partsL, partsL, ih]; omega
theorem partsL_take (es : List Gx) (k : Nat) (e : Gx) (h : es[k]? = some e) : partsL (es.take (k + 1)) = partsL (es.take k) + e.parts := by
  have hk := (List.getElem?_eq_some_iff.1 h).1
  have : es[k] = e := by rw [List.getElem?_eq_getElem hk] at h; exact Option.some.inj h
  rw [List.take_succ_eq_append_getElem hk, partsL_append, this]; simp [partsL]
theorem partsL_take_le (es : List Gx) (k : Nat) : partsL (es.take k) ≤ partsL es := by
  conv => rhs; rw [← List.take_append_drop k es, partsL_append]
  omega
/-- An expression fits at a depth, behind some parts. -/
def fitsAt (p d : Nat) (e : Gx) : Bool := decide (p + e.parts ≤ 200) && decide (d + e.depth ≤ 25)
/-- What the closure leaves: the counter's block aside, nothing has turned. -/
structure SzPost (bp p d : Nat) (e : Gx) (W : World) (en : Ending) (W' : World) : Prop where
  en : en = .returned (.bool (fitsAt p d e))
  gr : W.grownBy W' (some bp)
  ct : fitsAt p d e = true → Blk W' bp #[Z (p + e.parts)] 3
/-- A value of one cell is stored into a block of its own. -/
theorem wpList_store_val {ops : Array Oper} {rest : List Oper} {o : Oper} {a : Act} {w : World} {Q : Exit → Act → World → Prop} (hgd : o.guard = none) (ty t : TypeId) (x y : Operand) (ho : o.op = .store ty x y) (v old : Value) (g : Nat)
    (hq : Blk w g #[old] t) (hi : (Tryz.prog.info? ty).map (fun i => i.size) = some 1) (h1 : v.oneCell' = true) (hx : a.eval x = .pointer (some ⟨g, 0, none⟩)) (hy : a.eval y = v)
    (h : ∀ W', Blk W' g #[v] t → (∀ B, B ≤ g → Below B w W') → w.grownBy W' (some g) → W'.heap.size = w.heap.size → wpList Tryz.prog ops Q rest (a.put o.dst undef) W') : wpList Tryz.prog ops Q (o :: rest) a w := by
  subst hy
  refine wpList_store_one hgd ty x y ho g hx h1 t old hq hi ?_
  have hs : (w.setRow g #[a.eval y]).heap.size = w.heap.size := by simp [World.setRow]
  exact h _ (setRow_heap w g #[old] #[a.eval y] t _ hq) (fun B hB => ⟨rfl, rfl, rfl, Nat.le_of_eq hs.symm, fun k hk => setRow_other w g k _ (by omega)⟩) ⟨rfl, rfl, rfl, Nat.le_of_eq hs.symm, fun k _ hk => setRow_other w g k _ (fun e => hk (by rw [e]))⟩ hs
theorem grownBy_then {w w' w'' : World} {r : Option Nat} (h : w.grownBy w' r) (h' : w'.grownBy w'' r) : w.grownBy w'' r :=
  ⟨h'.os.trans h.os, h'.tape.trans h.tape, h'.output.trans h.output, Nat.le_trans h.size h'.size, fun k hk hr => (h'.block k (Nat.lt_of_lt_of_le hk h.size) hr).trans (h.block k hk hr)⟩
theorem grownBy_to {w w' : World} {r : Option Nat} (h : w.grownBy w' none) : w.grownBy w' r := ⟨h.os, h.tape, h.output, h.size, fun k hk _ => h.block k hk (by simp)⟩
theorem below_of_grownBy {w w' : World} {K bp : Nat} (h : w.grownBy w' (some bp)) (hK : K ≤ w.heap.size) (hb : K ≤ bp) : Below K w w' := ⟨h.os, h.tape, h.output, h.size, fun k hk => h.block k (by omega) (fun e => by simp at e; omega)⟩
abbrev szF (bp bf : Nat) : Value := .func (.func 93) #[] #[.pointer (some ⟨bp, 0, none⟩), .pointer (some ⟨bf, 0, none⟩)]

set_option maxRecDepth 100000 in
set_option maxHeartbeats 2000000 in
theorem sizedF_at (K bp bf tf : Nat) (m : Nat) : ∀ (e : Gx), e.parts ≤ m → ∀ (p d : Nat) (x : Xv) (W : World), ExG K W e x → K ≤ bp → bp < bf → p ≤ 200 → d ≤ 25 → Blk W bp #[Z p] 3 → Blk W bf #[szF bp bf] tf →
      Calls Tryz.prog 93 #[x.agg, .int .i64 d, .pointer (some ⟨bp, 0, none⟩), .pointer (some ⟨bf, 0, none⟩)] W (SzPost bp p d e W) := by
  induction m with
  | zero => intro e hm; cases e; rw [partsG_mk] at hm; omega
  | succ m ih =>
    intro e hm p d x W h hK hbf hp hd qp qf
    have hlt1 := qp.lt
    have hlt2 := qf.lt
    obtain ⟨_, _, _, _, g, hg, hgs⟩ := h.open
    obtain ⟨va, vcap, h8, hvl, hvm⟩ := hg.form
    obtain ⟨xop, xnm, kd, b3, ⟨a4, n4, m4⟩, b5, ⟨a6, n6, m6⟩, i7, ⟨a8, n8, m8⟩⟩ := x
    simp only [Sl.val, Value.slice.injEq] at h8
    obtain ⟨rfl, rfl, rfl⟩ := h8
    have HGS : Hid (∀ (k : Nat) (a : Gx), e.args[k]? = some a → ExG K W a (g k) ∧ a.parts ≤ m) := Lib.hid fun k a ha => ⟨hgs k a ha, by
      have h1 := partsG_arg (List.mem_of_getElem? ha)
      rw [partsG_args] at hm; omega⟩
    have HGG := Lib.hid hg
    have HIH := Lib.hid ih
    have hpe := partsG_args e
    have hde := depthG_args e
    have HP : Hid (∀ r W', fitsAt p d e = r → W.grownBy W' (some bp) → (r = true → Blk W' bp #[Z (p + e.parts)] 3) → SzPost bp p d e W (.returned (.bool r)) W') := Lib.hid fun r W' h1 h2 h3 => ⟨by rw [h1], h2, fun h => h3 (by rw [← h1]; exact h)⟩
    have HPE := Lib.hid hpe
    have HDE := Lib.hid hde
    have c0 : W.cell? ⟨bp, 0, none⟩ = some (.int .i64 (p : Int)) := qp.one.1
    have fr0 := qp.one.2
    have hZ : Z (p + 1) = .int .i64 ((p : Int) + 1) := by simp [Z]
    have hbW : bp < W.heap.size := qp.lt
    have hgr1 : W.grownBy ((W.setCell ⟨bp, 0, none⟩ (Z (p + 1))).alloc (.cells (⟨xop, xnm, kd, b3, ⟨a4, n4, m4⟩, b5, ⟨a6, n6, m6⟩, i7, ⟨a8, e.args.length, m8⟩⟩ : Xv).cells 32)) (some bp) := grownBy_then (grownBy_setCell _ _ _ _) (World.grownBy_alloc _ _ _)
    have qp1 : Blk ((W.setCell ⟨bp, 0, none⟩ (Z (p + 1))).alloc (.cells (⟨xop, xnm, kd, b3, ⟨a4, n4, m4⟩, b5, ⟨a6, n6, m6⟩, i7, ⟨a8, e.args.length, m8⟩⟩ : Xv).cells 32)) bp #[Z (p + 1)] 3 := (qp.set (Z (p + 1))).alloc _
    have qf1 : Blk ((W.setCell ⟨bp, 0, none⟩ (Z (p + 1))).alloc (.cells (⟨xop, xnm, kd, b3, ⟨a4, n4, m4⟩, b5, ⟨a6, n6, m6⟩, i7, ⟨a8, e.args.length, m8⟩⟩ : Xv).cells 32)) bf #[szF bp bf] tf := (qf.other (by omega) _).alloc _
    have qx1 : Blk ((W.setCell ⟨bp, 0, none⟩ (Z (p + 1))).alloc (.cells (⟨xop, xnm, kd, b3, ⟨a4, n4, m4⟩, b5, ⟨a6, n6, m6⟩, i7, ⟨a8, e.args.length, m8⟩⟩ : Xv).cells 32)) W.heap.size (⟨xop, xnm, kd, b3, ⟨a4, n4, m4⟩, b5, ⟨a6, n6, m6⟩, i7, ⟨a8, e.args.length, m8⟩⟩ : Xv).cells 32 := by
      have := Blk.new (W.setCell ⟨bp, 0, none⟩ (Z (p + 1))) (⟨xop, xnm, kd, b3, ⟨a4, n4, m4⟩, b5, ⟨a6, n6, m6⟩, i7, ⟨a8, e.args.length, m8⟩⟩ : Xv).cells 32
      rwa [show (W.setCell ⟨bp, 0, none⟩ (Z (p + 1))).heap.size = W.heap.size by simp [World.setCell]] at this
    obtain ⟨W1, hW1⟩ : ∃ W1, (W.setCell ⟨bp, 0, none⟩ (Z (p + 1))).alloc (.cells (⟨xop, xnm, kd, b3, ⟨a4, n4, m4⟩, b5, ⟨a6, n6, m6⟩, i7, ⟨a8, e.args.length, m8⟩⟩ : Xv).cells 32) = W1 := ⟨_, rfl⟩
    rw [hW1] at hgr1 qp1 qf1 qx1
    rw [hZ] at hW1
    dsimp only [Xv.cells] at hW1
    have HW1 := Lib.hid hW1
    have hpn : ((p : Int) + 1) = ((p + 1 : Nat) : Int) := by omega
    unfold maxLen at hvm
    clear h hgs hg ih hpe hde hm hW1 hpn hZ
    go_enter Tryz.func93, Tryz.ntmps93
    go_upto_region 2 with fail
    rw [HW1.out]
    clear c0 fr0
    have c1 : W1.cell? ⟨bp, 0, none⟩ = some (.int .i64 ((p + 1 : Nat) : Int)) := qp1.one.1
    obtain ⟨q, hq⟩ : ∃ q, p + 1 = q := ⟨_, rfl⟩
    rw [hq] at c1 qp1
    have HQ := Lib.hid hq
    by_cases h200 : 200 < q
    · have hf : fitsAt p d e = false := by unfold fitsAt; have := partsG_args e; simp; omega
      have hx := HP.out false W1 hf hgr1 (fun h => by cases h)
      have ht : decide ((200 : Int) < (q : Int)) = true := by simp; omega
      clear hf hq h200
      go_wp2_with fail
      go_ret
      exact hx
    · have ht : decide ((200 : Int) < (q : Int)) = false := by simp; omega
      by_cases h24 : 24 < d
      · have hf : fitsAt p d e = false := by unfold fitsAt; have := HDE.out; simp; omega
        have hx := HP.out false W1 hf hgr1 (fun h => by cases h)
        have ht2 : decide ((24 : Int) < (d : Int)) = true := by simp; omega
        clear hf hq h200 h24
        go_wp2_with fail
        go_ret
        exact hx
      · have ht2 : decide ((24 : Int) < (d : Int)) = false := by simp; omega
        have HQL : Hid (q ≤ 200) := Lib.hid (by omega)
        clear hq h200
        obtain ⟨d0, d1, d2, d3, d4, d5, d6, d7, d8⟩ := qx1.nine
        go_wp2_with fail
        clear d0 d1 d2 d3 d4 d5 d6 d7 d8 c1
        go_loopw [20] (fun i wr => ∃ (k : Nat), k ≤ e.args.length ∧ i = .int .i64 k ∧ Blk wr bp #[Z (q + partsL (e.args.take k))] 3 ∧ Blk wr bf #[szF bp bf] tf ∧ W.grownBy wr (some bp) ∧ q + partsL (e.args.take k) ≤ 200 ∧ Hid (∀ (j : Nat) (a : Gx), j < k → e.args[j]? = some a → d + 1 + a.depth ≤ 25)) (fun i _ => e.args.length - (intOf i).toNat)
        case atStart => exact ⟨0, Nat.zero_le _, rfl, by simpa [partsL] using qp1, qf1, hgr1, by have := HQL.out; simp [partsL]; omega, Lib.hid fun j a hj => absurd hj (Nat.not_lt_zero j)⟩
        case round =>
          obtain ⟨k, hk, rfl, rp, rf, hgr, hct, HD⟩ := hrel
          by_cases hlt : k < e.args.length
          · obtain ⟨b, o, cap, he, _, hcm, hbK, hc⟩ := HGG.out.pos (by omega)
            simp only [Sl.val, Value.slice.injEq, true_and] at he
            obtain ⟨rfl, rfl⟩ := he
            have hbr : Below K W wr := below_of_grownBy hgr (by omega) hK
            obtain ⟨k0, k1, k2, k3, k4, k5, k6, k7, k8⟩ := ex_cells (cells_below hbr hbK hc) hlt
            obtain ⟨ek, hek⟩ : ∃ ek, e.args[k]? = some ek := ⟨_, List.getElem?_eq_getElem hlt⟩
            obtain ⟨hqe, hpm⟩ := HGS.out k ek hek
            obtain ⟨y, hy⟩ : ∃ y, g k = y := ⟨_, rfl⟩
            rw [hy] at hqe k0 k1 k2 k3 k4 k5 k6 k7 k8
            have hsr := hgr.size
            obtain ⟨c, hcq⟩ : ∃ c, q + partsL (e.args.take k) = c := ⟨_, rfl⟩
            rw [hcq] at rp hct
            have hcall := HIH.out ek hpm c (d + 1) y (wr.alloc (.cells y.cells 32)) (hqe.below (hbr.alloc (by omega) _) (Nat.le_refl _) (Nat.le_refl _)) hK hbf hct (by omega) (rp.alloc _) (rf.alloc _)
            have hd1 : (((d + 1 : Nat)) : Int) = (d : Int) + 1 := by omega
            rw [hd1] at hcall
            have f0 : wr.cell? ⟨bf, 0, none⟩ = some (szF bp bf) := rf.one.1
            have hbfl := rf.lt
            have HPT : Hid (partsL (e.args.take (k + 1)) = partsL (e.args.take k) + ek.parts) := Lib.hid (partsL_take e.args k ek hek)
            have HPL : Hid (partsL (e.args.take k) + ek.parts ≤ partsL e.args) := Lib.hid (by rw [← partsL_take e.args k ek hek]; exact partsL_take_le _ _)
            have HDA : Hid (ek.depth ≤ depthL e.args) := Lib.hid (depthG_arg (List.mem_of_getElem? hek))
            have HEK := Lib.hid hek
            have HCQ := Lib.hid hcq
            clear hek hc hy hqe hpm hd1 hcq
            go_wp2_with fail
            refine hcall.mono ?_
            rintro en W6 ⟨rfl, hg6, hct6⟩
            clear hcall k0 k1 k2 k3 k4 k5 k6 k7 k8 f0
            have hgr6 : W.grownBy W6 (some bp) := grownBy_then (grownBy_then hgr (World.grownBy_alloc wr _ _)) hg6
            have rf6 : Blk W6 bf #[szF bp bf] tf := (rf.alloc _).kept hg6 (by simp; omega)
            obtain ⟨r, hr⟩ : ∃ r, fitsAt c (d + 1) ek = r := ⟨_, rfl⟩
            rw [hr] at hct6 ⊢
            have HR := Lib.hid hr
            clear hr
            cases r with
            | false =>
              have hx := HP.out false W6 (by
                have h1 := HR.out
                unfold fitsAt at h1 ⊢
                have h2 := HPE.out
                have h3 := HDE.out
                have h4 := HPL.out
                have h5 := HDA.out
                have h6 := HCQ.out
                have h7 := HQ.out
                simp at h1 ⊢
                omega) hgr6 (fun h => by cases h)
              clear hct6
              go_wp2_with fail
              go_ret
              exact hx
            | true =>
              have hb6 := hct6 rfl
              have h200' : c + ek.parts ≤ 200 ∧ d + 1 + ek.depth ≤ 25 := by
                have h1 := HR.out
                unfold fitsAt at h1
                simpa using h1
              have hqk : q + partsL (e.args.take (k + 1)) = c + ek.parts := by have := HPT.out; have := HCQ.out; omega
              have HDN : Hid (∀ (j : Nat) (a : Gx), j < k + 1 → e.args[j]? = some a → d + 1 + a.depth ≤ 25) := Lib.hid fun j a hj ha => by
                by_cases hjk : j = k
                · subst hjk
                  have h1 := HEK.out
                  rw [ha] at h1
                  obtain rfl := Option.some.inj h1
                  exact h200'.2
                · exact HD.out j a (by omega) ha
              have hb7 : Blk W6 bp #[Z (q + partsL (e.args.take (k + 1)))] 3 := by rw [hqk]; exact hb6
              have hle : q + partsL (e.args.take (k + 1)) ≤ 200 := by rw [hqk]; exact h200'.1
              clear hct6 hb6 h200' hqk
              go_wp2_with fail
              exact ⟨⟨k + 1, by omega, by go_num, hb7, rf6, hgr6, hle, HDN⟩, by simp [intOf]; omega⟩
          · obtain rfl : k = e.args.length := by omega
            rw [List.take_length] at rp hct
            have hx := HP.out true wr (by
              unfold fitsAt
              have h2 := HPE.out
              have h3 := HDE.out
              have h7 := HQ.out
              have h8 : depthL e.args ≤ 24 - d := depthL_le fun a ha => by
                obtain ⟨j, hj, rfl⟩ := List.mem_iff_getElem.1 ha
                have := HD.out j _ hj (List.getElem?_eq_getElem hj)
                omega
              simp
              omega) hgr (fun _ => by
                have h2 := HPE.out
                have h7 := HQ.out
                rw [show p + e.parts = q + partsL e.args by omega]; exact rp)
            go_wp2_with fail
            go_ret
            exact hx

set_option maxRecDepth 100000 in
set_option maxHeartbeats 2000000 in
theorem sized_any (K : Nat) (e : Gx) (x : Xv) (w : World) (h : ExG K w e x) (hK : K ≤ w.heap.size) : Calls Tryz.prog 48 #[x.agg] w fun en w' => en = .returned (.bool (fits e)) ∧ Below w.heap.size w w' := by
  have hfit : fits e = fitsAt 0 1 e := by unfold fits fitsAt; congr 1 <;> (rw [Bool.eq_iff_iff]; simp; try omega)
  rw [hfit]
  have HX := Lib.hid h
  obtain ⟨xop, xnm, kd, b3, ⟨a4, n4, m4⟩, b5, ⟨a6, n6, m6⟩, i7, ⟨a8, n8, m8⟩⟩ := x
  clear h
  go_enter Tryz.func48, Tryz.ntmps48
  have hinf : (Tryz.prog.info? 33).map (fun i => i.size) = some 1 := by kernel_rfl
  go_upto_region 3 with fail
  obtain ⟨W1, hW1⟩ : ∃ W1, ((w.alloc (.cells (⟨xop, xnm, kd, b3, ⟨a4, n4, m4⟩, b5, ⟨a6, n6, m6⟩, i7, ⟨a8, n8, m8⟩⟩ : Xv).cells 32)).alloc (.cells #[.int .i64 0] 3)).alloc (.cells #[.nilFunc] 33) = W1 := ⟨_, rfl⟩
  rw [hW1]
  have q0 : Blk W1 w.heap.size (⟨xop, xnm, kd, b3, ⟨a4, n4, m4⟩, b5, ⟨a6, n6, m6⟩, i7, ⟨a8, n8, m8⟩⟩ : Xv).cells 32 := by rw [← hW1]; exact ((Blk.new w _ _).alloc _).alloc _
  have q1 : Blk W1 (w.heap.size + 1) #[Z 0] 3 := by
    rw [← hW1]
    have := Blk.new (w.alloc (.cells (⟨xop, xnm, kd, b3, ⟨a4, n4, m4⟩, b5, ⟨a6, n6, m6⟩, i7, ⟨a8, n8, m8⟩⟩ : Xv).cells 32)) #[Z 0] 3
    rw [World.size_alloc] at this
    exact this.alloc _
  have q2 : Blk W1 (w.heap.size + 1 + 1) #[.nilFunc] 33 := by
    rw [← hW1]
    have := Blk.new ((w.alloc (.cells (⟨xop, xnm, kd, b3, ⟨a4, n4, m4⟩, b5, ⟨a6, n6, m6⟩, i7, ⟨a8, n8, m8⟩⟩ : Xv).cells 32)).alloc (.cells #[.int .i64 0] 3)) #[.nilFunc] 33
    rwa [World.size_alloc, World.size_alloc] at this
  have b1 : Below w.heap.size w W1 := by rw [← hW1]; exact (((Below.refl _ _).alloc (Nat.le_refl _) _).alloc (by simp) _).alloc (by simp; omega) _
  clear hW1
  iterate 4 go_step
  refine wpList_store_val rfl 33 33 (.tmp 4) (.tmp 5) rfl (szF (w.heap.size + 1) (w.heap.size + 1 + 1)) .nilFunc (w.heap.size + 1 + 1) q2 hinf rfl rfl rfl ?_
  intro W2 t1 t2 t3 t4
  have b2 : Below w.heap.size w W2 := b1.trans (t2 _ (by omega))
  have p0 := q0.kept t3 (by simp; omega)
  have p1 := q1.kept t3 (by simp)
  obtain ⟨d0, d1, d2, d3, d4, d5, d6, d7, d8⟩ := p0.nine
  have f0 := t1.one.1
  have hc := sizedF_at w.heap.size (w.heap.size + 1) (w.heap.size + 1 + 1) 33 e.parts e (Nat.le_refl _) 0 1 _ W2 (HX.out.below b2 hK hK) (by omega) (by omega) (by omega) (by omega) p1 t1
  go_wp2_with fail
  refine hc.mono ?_
  rintro en w3 ⟨rfl, hg3, _⟩
  have hb3 : Below w.heap.size w w3 := b2.trans (below_of_grownBy hg3 b2.size (by omega))
  clear d0 d1 d2 d3 d4 d5 d6 d7 d8 f0 hc
  go_wp2_with fail
  go_ret
  exact ⟨rfl, hb3⟩
end Go.Proofs.YthooiobhlbnaoaaGreat
namespace Go.Proofs.YthooiobhlbnaoaaGreat
open Go.RowKit
set_option linter.unusedVariables false

def sv0 : Sv := ⟨xz, 0, ⟨none, 0, 0⟩⟩
/-- No cells that the call has laid have turned. -/
def Keeps (base : Nat) (w w' : World) : Prop := (∀ b o, base ≤ b → w.heap[b]? = some o → o.isCells = true → w'.heap[b]? = some o) ∧ w.heap.size ≤ w'.heap.size
theorem ownsRow_move {base T c n : Nat} {w w' : World} {v : Value} {xs : List Value} (h : w.ownsRow base T c v n xs) (hk : ∀ g o, v.ownBlock = some g → w.heap[g]? = some o → o.isCells = true → w'.heap[g]? = some o) : w'.ownsRow base T c v n xs := by
  obtain ⟨h1, h2⟩ := h
  refine ⟨h1, ?_⟩
  rcases h2 with h2 | ⟨g, cap, cur, rfl, hb, hg, h3⟩
  · exact .inl h2
  · exact .inr ⟨g, cap, cur, rfl, hb, hk g _ rfl hg rfl, h3⟩
theorem OwnR.move {base T c : Nat} {w w' : World} {v : Value} {rs : List (List Value)} (h : OwnR c T base w v rs) (hk : ∀ g o, v.ownBlock = some g → w.heap[g]? = some o → o.isCells = true → w'.heap[g]? = some o) : OwnR c T base w' v rs := ⟨ownsRow_move h.1 hk, h.2⟩
theorem OwnR.moveEq {base T c : Nat} {w w' : World} {v : Value} {rs : List (List Value)} (h : OwnR c T base w v rs) (hk : ∀ g, v.ownBlock = some g → w'.heap[g]? = w.heap[g]?) : OwnR c T base w' v rs := h.move fun g o hg ho _ => (hk g hg).trans ho
theorem sv_cell_at (y : Sv) {j : Nat} (hj : j < 11) : (y.cells.toList[j]?).getD undef = y.cell j := by
  match j, hj with
  | 0, _ => rfl
  | 1, _ => rfl
  | 2, _ => rfl
  | 3, _ => rfl
  | 4, _ => rfl
  | 5, _ => rfl
  | 6, _ => rfl
  | 7, _ => rfl
  | 8, _ => rfl
  | 9, _ => rfl
  | 10, _ => rfl
theorem vv_cell_at (y : Vv) {j : Nat} (hj : j < 6) : (y.cells.toList[j]?).getD undef = y.cell j := by
  match j, hj with
  | 0, _ => rfl
  | 1, _ => rfl
  | 2, _ => rfl
  | 3, _ => rfl
  | 4, _ => rfl
  | 5, _ => rfl
theorem sv_one (y : Sv) : ∀ u ∈ y.cells.toList, u.oneCell' = true := by
  intro u hu
  simp at hu
  rcases hu with rfl | rfl | rfl | rfl | rfl | rfl | rfl | rfl | rfl | rfl | rfl <;> rfl
theorem sv_row (y : Sv) : RowsOk 11 [y.cells.toList] := RowsOk.one rfl (sv_one y)
/-- The cuts of a scale that a call owns. -/
def CtO (base : Nat) (w : World) (F : Nat → Prop) (c : Value) (l : List Vq) : Prop :=
  ∃ zs : List Vv, zs.length = l.length ∧ OwnR 6 30 base w c (zs.map fun z => z.cells.toList) ∧ ∀ j, j < l.length → Zed F w fun K W => VlX K W (l[j]?.getD v0) (zs[j]?.getD vv0)
structure ScO (base : Nat) (w : World) (v : Value) (l : List Sc) (ys : List Sv) (F : Nat → Prop) : Prop where
  len : ys.length = l.length
  own : OwnR 11 48 base w v (ys.map fun y => y.cells.toList)
  rng : ∀ b, F b → base ≤ b ∧ b < w.heap.size
  nv : ∀ b, F b → v.ownBlock ≠ some b
  nc : ∀ b, F b → ∀ y ∈ ys, y.c.val.ownBlock ≠ some b
  dat : ∀ i, i < l.length → Zed F w (fun K W => ExG K W (l[i]?.getD default).e (ys[i]?.getD sv0).x) ∧ (ys[i]?.getD sv0).kd = (l[i]?.getD default).kd
  cut : ∀ i, i < l.length → CtO base w F (ys[i]?.getD sv0).c.val (l[i]?.getD default).cuts
  dis : ∀ i j g, i < l.length → j < l.length → (ys[i]?.getD sv0).c.val.ownBlock = some g → (ys[j]?.getD sv0).c.val.ownBlock = some g → i = j
def ScOwn (base : Nat) (w : World) (v : Value) (l : List Sc) : Prop := ∃ ys F, ScO base w v l ys F
theorem ScOwn.nil (base : Nat) (w : World) : ScOwn base w (.slice none 0 0) [] :=
  ⟨[], fun _ => False, rfl, OwnR.nil _ _ _ _, fun b h => h.elim, fun b h => h.elim, fun b h => h.elim, fun i h => absurd h (by simp), fun i h => absurd h (by simp), fun i j g h => absurd h (by simp)⟩
section
variable {base : Nat} {w w' : World} {v : Value} {l : List Sc} {ys : List Sv} {F : Nat → Prop}
theorem CtO.move {c : Value} {cs : List Vq} (h : CtO base w F c cs) (hF : Agr F w w') (hk : ∀ g o, c.ownBlock = some g → w.heap[g]? = some o → o.isCells = true → w'.heap[g]? = some o) : CtO base w' F c cs := by
  obtain ⟨zs, h1, h2, h3⟩ := h
  exact ⟨zs, h1, h2.move hk, fun j hj => (h3 j hj).move hF⟩
theorem CtO.moveEq {c : Value} {cs : List Vq} (h : CtO base w F c cs) (hF : Agr F w w') (hk : ∀ g, c.ownBlock = some g → w'.heap[g]? = w.heap[g]?) : CtO base w' F c cs := h.move hF fun g o hg ho _ => (hk g hg).trans ho
theorem CtO.mono {G : Nat → Prop} {c : Value} {cs : List Vq} (h : CtO base w F c cs) (hF : ∀ b, F b → G b) : CtO base w G c cs := by
  obtain ⟨zs, h1, h2, h3⟩ := h
  exact ⟨zs, h1, h2, fun j hj => (h3 j hj).mono hF⟩
theorem CtO.low {c : Value} {cs : List Vq} (h : CtO base w F c cs) {g : Nat} (hg : c.ownBlock = some g) : base ≤ g ∧ g < w.heap.size := by
  obtain ⟨zs, h1, h2, h3⟩ := h
  exact ⟨h2.low hg, h2.lt hg⟩
theorem CtO.read {c : Value} {cs : List Vq} (h : CtO base w F c cs) (hF : ∀ b, F b → b < w.heap.size) : CutsX w.heap.size w c cs := by
  obtain ⟨zs, h1, h2, h3⟩ := h
  refine ⟨fun i => zs[i]?.getD vv0, ?_, fun i hi => (h3 i hi).get hF⟩
  have hr := h2.rows
  rw [List.length_map, h1] at hr
  refine hr.congr fun i hi j hj => ?_
  have hi' : i < zs.length := by omega
  have e1 : zs[i]?.getD vv0 = zs[i] := by rw [List.getElem?_eq_getElem hi']; rfl
  show _ = (zs[i]?.getD vv0).cell j
  rw [e1, List.getElem?_map, List.getElem?_eq_getElem hi']
  exact vv_cell_at _ hj
theorem ScO.move (h : ScO base w v l ys F) (hk : Keeps base w w') : ScO base w' v l ys F := by
  have hF : Agr F w w' := fun b o hb => hk.1 b o (h.rng b hb).1
  refine ⟨h.len, h.own.move fun g o hg => hk.1 g o (h.own.low hg), fun b hb => ⟨(h.rng b hb).1, Nat.lt_of_lt_of_le (h.rng b hb).2 hk.2⟩, h.nv, h.nc, fun i hi => ⟨(h.dat i hi).1.move hF, (h.dat i hi).2⟩, fun i hi => ?_, h.dis⟩
  exact (h.cut i hi).move hF fun g o hg => hk.1 g o ((h.cut i hi).low hg).1
theorem ScOwn.move (h : ScOwn base w v l) (hk : Keeps base w w') : ScOwn base w' v l := by
  obtain ⟨ys, F, h⟩ := h; exact ⟨ys, F, h.move hk⟩
theorem ScO.read (h : ScO base w v l ys F) : ScsX w.heap.size w v l := by
  refine ⟨fun i => ys[i]?.getD sv0, ?_, fun i hi => ⟨(h.dat i hi).1.get fun b hb => (h.rng b hb).2, (h.dat i hi).2, (h.cut i hi).read fun b hb => (h.rng b hb).2⟩⟩
  have hr := h.own.rows
  rw [List.length_map, h.len] at hr
  refine hr.congr fun i hi j hj => ?_
  have hl := h.len
  have hi' : i < ys.length := by omega
  have e1 : ys[i]?.getD sv0 = ys[i] := by rw [List.getElem?_eq_getElem hi']; rfl
  show _ = (ys[i]?.getD sv0).cell j
  rw [e1, List.getElem?_map, List.getElem?_eq_getElem hi']
  exact sv_cell_at _ hj
theorem ScOwn.read (h : ScOwn base w v l) : ScsX w.heap.size w v l := by obtain ⟨ys, F, h⟩ := h; exact h.read
theorem keeps_grown (h : w.grownBy w' none) : Keeps base w w' := ⟨fun b o _ ho _ => (h.block b (Array.getElem?_eq_some_iff.1 ho).1 (by simp)).trans ho, h.size⟩
theorem keeps_below {B : Nat} (h : Below w.heap.size w w') : Keeps base w w' := ⟨fun b o _ ho _ => (h.block b (Array.getElem?_eq_some_iff.1 ho).1).trans ho, h.size⟩
theorem getD_append_left {α : Type} {a b : List α} {d : α} {i : Nat} (h : i < a.length) : (a ++ b)[i]?.getD d = a[i]?.getD d := by rw [List.getElem?_append_left h]
theorem getD_append_at {α : Type} {a : List α} {x d : α} : (a ++ [x])[a.length]?.getD d = x := by simp
/-- A scale more. -/
theorem ScO.add {W w5 : World} {v' : Value} {e : Gx} {kd : Int} {x : Xv} {lo hi g : Nat} (h : ScO base w v l ys F) (hw : w.grownBy W none) (hz : Zed (Btw lo hi) W fun K W => ExG K W e x) (hlo : w.heap.size ≤ lo) (hlb : base ≤ lo) (hhi : hi ≤ W.heap.size)
    (hg : W.grownBy w5 v.ownBlock) (hown : OwnR 11 48 base w5 v' ((ys.map fun y => y.cells.toList) ++ [(⟨x, kd, ⟨none, 0, 0⟩⟩ : Sv).cells.toList])) (hv' : v'.ownBlock = some g) (hat : v.ownBlock = some g ∨ hi ≤ g) (hgw : v.ownBlock = some g ∨ w.heap.size ≤ g) :
    ScO base w5 v' (l ++ [⟨e, kd, []⟩]) (ys ++ [⟨x, kd, ⟨none, 0, 0⟩⟩]) (fun b => F b ∨ Btw lo hi b) := by
  have hl := h.len
  have hsz := hg.size
  have hsw := hw.size
  have hlt : ∀ r, v.ownBlock = some r → r < w.heap.size := fun r hr => h.own.lt hr
  have hFw : Agr F w w5 := Agr.of fun b hb => (hg.block b (by have := (h.rng b hb).2; omega) (fun e => h.nv b hb e.symm)).trans (hw.block b (h.rng b hb).2 (by simp))
  have hBw : Agr (Btw lo hi) W w5 := Agr.of fun b hb => hg.block b (by have := hb.2; omega) (fun e => by have := hlt b e.symm; have := hb.1; omega)
  have hcut : ∀ i, i < l.length → CtO base w5 F (ys[i]?.getD sv0).c.val (l[i]?.getD default).cuts := fun i hi => (h.cut i hi).moveEq hFw fun q hq => by
    have hq2 := ((h.cut i hi).low hq).2
    refine (hg.block q (by omega) fun e => ?_).trans (hw.block q hq2 (by simp))
    -- rows of values and of scales lie in different blocks
    obtain ⟨zs, _, ho, _⟩ := h.cut i hi
    rcases id ho.1.2 with ⟨h0, _⟩ | ⟨g1, c1, cur1, h0, _, hg1, _⟩
    · rw [h0] at hq; cases hq
    · rw [h0] at hq
      obtain rfl : g1 = q := by simpa [Value.ownBlock] using hq
      rcases id h.own.1.2 with ⟨h2, _⟩ | ⟨g2, c2, cur2, h2, _, hg2, _⟩
      · rw [h2] at e; cases e
      · rw [h2] at e
        obtain rfl : g1 = g2 := by simpa [Value.ownBlock] using e
        rw [hg1] at hg2
        simp only [Option.some.injEq, Obj.cells.injEq] at hg2
        have := hg2.2.1
        revert this; decide
  have hlr : (ys ++ [(⟨x, kd, ⟨none, 0, 0⟩⟩ : Sv)]).length = (l ++ [(⟨e, kd, []⟩ : Sc)]).length := by simp [hl]
  have hgb : ∀ b, F b ∨ Btw lo hi b → b ≠ g := fun b hb e => by
    subst e
    rcases hb with hb | hb
    · rcases hgw with hq | hq
      · exact h.nv _ hb hq
      · have := (h.rng _ hb).2; omega
    · rcases hat with hq | hq
      · have := hlt _ hq; have := hb.1; omega
      · have := hb.2; omega
  refine ⟨hlr, by rw [List.map_append]; exact hown, fun b hb => ?_, fun b hb e => ?_, fun b hb y hy => ?_, fun i hi => ?_, fun i hi => ?_, fun i j q hi hj h1 h2 => ?_⟩
  · rcases hb with hb | hb
    · have := h.rng b hb; omega
    · have := hb.1; have := hb.2; omega
  · rw [hv'] at e; exact hgb b hb (by simpa using e.symm)
  · rcases List.mem_append.1 hy with hy | hy
    · rcases hb with hb | hb
      · exact h.nc b hb y hy
      · intro e
        obtain ⟨k, hk, rfl⟩ := List.mem_iff_getElem.1 hy
        have := ((h.cut k (by omega)).low (g := b) (by rw [List.getElem?_eq_getElem hk]; exact e)).2
        have := hb.1; omega
    · rw [List.mem_singleton.1 hy]; simp [Value.ownBlock]
  · rw [List.length_append, List.length_singleton] at hi
    by_cases hil : i < l.length
    · rw [getD_append_left hil, getD_append_left (by omega)]
      exact ⟨((h.dat i hil).1.move hFw).mono fun b hb => .inl hb, (h.dat i hil).2⟩
    · obtain rfl : i = l.length := by omega
      rw [getD_append_at, ← hl, getD_append_at]
      exact ⟨(hz.move hBw).mono fun b hb => .inr hb, rfl⟩
  · rw [List.length_append, List.length_singleton] at hi
    by_cases hil : i < l.length
    · rw [getD_append_left hil, getD_append_left (by omega)]
      exact (hcut i hil).mono fun b hb => .inl hb
    · obtain rfl : i = l.length := by omega
      rw [getD_append_at, ← hl, getD_append_at]
      exact ⟨[], rfl, OwnR.nil _ _ _ _, fun j hj => absurd hj (by simp)⟩
  · rw [List.length_append, List.length_singleton] at hi hj
    by_cases hil : i < l.length
    · by_cases hjl : j < l.length
      · rw [getD_append_left (by omega)] at h1 h2
        exact h.dis i j q hil hjl h1 h2
      · obtain rfl : j = l.length := by omega
        rw [← hl, getD_append_at] at h2
        simp [Value.ownBlock] at h2
    · obtain rfl : i = l.length := by omega
      rw [← hl, getD_append_at] at h1
      simp [Value.ownBlock] at h1
/-- A row's cell is set. -/
theorem flat_set {c : Nat} {rs : List (List Value)} (h : RowsOk c rs) {i j : Nat} {r : List Value} (hi : rs[i]? = some r) (hj : j < c) (u : Value) : (rs.set i (r.set j u)).flatten = rs.flatten.set (i * c + j) u := by
  induction rs generalizing i with
  | nil => simp at hi
  | cons x t ih =>
    have hx := (h x (by simp)).1
    cases i with
    | zero =>
      simp only [List.getElem?_cons_zero, Option.some.injEq] at hi
      subst hi
      rw [List.set_cons_zero, List.flatten_cons, List.flatten_cons, Nat.zero_mul, Nat.zero_add, List.set_append, if_pos (by omega)]
    | succ i =>
      rw [List.set_cons_succ, List.flatten_cons, List.flatten_cons, ih (fun y hy => h y (List.mem_cons_of_mem _ hy)) (by simpa using hi), List.set_append, if_neg (by rw [hx, Nat.succ_mul]; omega), hx]
      congr 2; rw [Nat.succ_mul]; omega
theorem OwnR.setAt {c T : Nat} {rs : List (List Value)} {g n cap i j : Nat} {r : List Value} (h : OwnR c T base w (.slice (some ⟨g, 0, none⟩) n cap) rs) (hi : rs[i]? = some r) (hj : j < c) {u : Value} (h1 : u.oneCell' = true) :
    OwnR c T base (w.setCell ⟨g, i * c + j, none⟩ u) (.slice (some ⟨g, 0, none⟩) n cap) (rs.set i (r.set j u)) := by
  have hil := (List.getElem?_eq_some_iff.1 hi).1
  have hrm := h.2 r (List.mem_of_getElem? hi)
  have hok : RowsOk c (rs.set i (r.set j u)) := fun q hq => by
    rcases List.mem_or_eq_of_mem_set hq with hq | rfl
    · exact h.2 q hq
    · refine ⟨by rw [List.length_set]; exact hrm.1, fun z hz => ?_⟩
      rcases List.mem_or_eq_of_mem_set hz with hz | rfl
      · exact hrm.2 z hz
      · exact h1
  refine ⟨⟨by rw [flat_length hok], ?_⟩, hok⟩
  rcases h.1.2 with ⟨h0, _⟩ | ⟨g', cap', cur, h0, hb, hg, hn, hm, hs, ht⟩
  · cases h0
  · simp only [Value.slice.injEq, Option.some.injEq, Addr.mk.injEq, and_true] at h0
    obtain ⟨rfl, rfl, rfl⟩ := h0
    refine .inr ⟨g, cap, cur.setIfInBounds (i * c + j) u, by rw [List.length_set], hb, Blk.set hg u, by rw [List.length_set]; exact hn, hm, by simpa using hs, ?_⟩
    have hlt : i * c + j < rs.length * c := by
      have : (i + 1) * c ≤ rs.length * c := Nat.mul_le_mul_right _ hil
      rw [Nat.succ_mul] at this; omega
    rw [List.length_set, Array.toList_setIfInBounds, List.take_set, ht, flat_set h.2 hi hj]
theorem map_insR {zs : List Vv} {r : Nat} {z : Vv} : insR (zs.map fun z => z.cells.toList) r z.cells.toList = (zs.take r ++ z :: zs.drop r).map fun z => z.cells.toList := by
  unfold insR; rw [List.map_append, List.map_cons, List.map_take, List.map_drop]
theorem getD_ins {α : Type} {l : List α} {r j : Nat} {x d : α} (hr : r ≤ l.length) : (l.take r ++ x :: l.drop r)[j]?.getD d = if j < r then l[j]?.getD d else if j = r then x else l[j - 1]?.getD d := by
  have ht : (l.take r).length = r := by rw [List.length_take]; omega
  by_cases h1 : j < r
  · rw [if_pos h1, List.getElem?_append_left (by omega), List.getElem?_take, if_pos h1]
  · rw [if_neg h1, List.getElem?_append_right (by omega), ht]
    by_cases h2 : j = r
    · rw [if_pos h2, h2, Nat.sub_self]; rfl
    · rw [if_neg h2, show j - r = (j - r - 1) + 1 by omega, List.getElem?_cons_succ, List.getElem?_drop, show r + (j - r - 1) = j - 1 by omega]
theorem getD_set {α : Type} {l : List α} {i j : Nat} {x d : α} (hi : i < l.length) : (l.set i x)[j]?.getD d = if j = i then x else l[j]?.getD d := by
  rw [List.getElem?_set]
  by_cases h : j = i
  · rw [if_pos h, if_pos h.symm, if_pos hi]; rfl
  · rw [if_neg h, if_neg (fun e => h e.symm)]
/-- A cut more in a scale. -/
theorem ScO.ins {W5 : World} {sb n cap i hi g r : Nat} {cv' : Sl} {x : Vq} {z : Vv} {zs : List Vv} (h : ScO base w (.slice (some ⟨sb, 0, none⟩) n cap) l ys F) (hil : i < l.length) (hr : r ≤ (l[i]?.getD default).cuts.length)
    (hzs : zs.length = (l[i]?.getD default).cuts.length) (hzo : OwnR 6 30 base w (ys[i]?.getD sv0).c.val (zs.map fun z => z.cells.toList)) (hzd : ∀ j, j < (l[i]?.getD default).cuts.length → Zed F w fun K W => VlX K W ((l[i]?.getD default).cuts[j]?.getD v0) (zs[j]?.getD vv0))
    (hown : OwnR 6 30 base W5 cv'.val (insR (zs.map fun z => z.cells.toList) r z.cells.toList)) (hg : w.grownBy W5 (ys[i]?.getD sv0).c.val.ownBlock) (hz : Zed (Btw w.heap.size hi) W5 fun K W => VlX K W x z) (hlo : w.heap.size ≤ hi) (hhi : hi ≤ W5.heap.size)
    (hv' : cv'.val.ownBlock = some g) (hat : (ys[i]?.getD sv0).c.val.ownBlock = some g ∨ hi ≤ g) (hbw : base ≤ w.heap.size) :
    ScO base (W5.setCell ⟨sb, i * 11 + 10, none⟩ cv'.val) (.slice (some ⟨sb, 0, none⟩) n cap) (l.set i { (l[i]?.getD default) with cuts := (l[i]?.getD default).cuts.take r ++ x :: (l[i]?.getD default).cuts.drop r }) (ys.set i { (ys[i]?.getD sv0) with c := cv' }) (fun b => F b ∨ Btw w.heap.size hi b) := by
  have hl := h.len
  have hyl : i < ys.length := by omega
  have hsbl : sb < w.heap.size := h.own.lt rfl
  have hsz : (W5.setCell ⟨sb, i * 11 + 10, none⟩ cv'.val).heap.size = W5.heap.size := by simp [World.setCell]
  have hold : ∀ b, b < w.heap.size → (ys[i]?.getD sv0).c.val.ownBlock ≠ some b → b ≠ sb → (W5.setCell ⟨sb, i * 11 + 10, none⟩ cv'.val).heap[b]? = w.heap[b]? := fun b hb hne hs => (Below.heap_setCell _ _ _ _ hs).trans (hg.block b hb (fun e => hne e.symm))
  have hym : (ys[i]?.getD sv0) ∈ ys := by rw [List.getElem?_eq_getElem hyl]; exact List.getElem_mem hyl
  have hFs : ∀ b, F b → b ≠ sb := fun b hb e => h.nv b hb (by rw [e]; rfl)
  have hFw : Agr F w (W5.setCell ⟨sb, i * 11 + 10, none⟩ cv'.val) := Agr.of fun b hb => hold b (h.rng b hb).2 (h.nc b hb _ hym) (hFs b hb)
  have hBw : Agr (Btw w.heap.size hi) W5 (W5.setCell ⟨sb, i * 11 + 10, none⟩ cv'.val) := Agr.of fun b hb => Below.heap_setCell _ _ _ _ (by show b ≠ sb; have := hb.1; omega)
  have hne0 : (ys[i]?.getD sv0).c.val.ownBlock ≠ some sb := rows_apart h.own hzo (by decide) rfl
  have hrow : (ys.map fun y => y.cells.toList)[i]? = some (ys[i]?.getD sv0).cells.toList := by rw [List.getElem?_map, List.getElem?_eq_getElem hyl]; rfl
  have hset : ((ys.map fun y => y.cells.toList).set i ((ys[i]?.getD sv0).cells.toList.set 10 cv'.val)) = (ys.set i { (ys[i]?.getD sv0) with c := cv' }).map fun y => y.cells.toList := by
    rw [List.map_set]; rfl
  have hgn : g ≠ sb := fun e => by
    rcases hat with hq | hq
    · exact hne0 (by rw [hq, e])
    · omega
  have hgF : ∀ b, F b ∨ Btw w.heap.size hi b → b ≠ g := fun b hb e => by
    subst e
    rcases hat with hq | hq
    · rcases hb with hb | hb
      · exact h.nc _ hb _ hym hq
      · have := ((h.cut i hil).low hq).2; have := hb.1; omega
    · rcases hb with hb | hb
      · have := (h.rng _ hb).2; omega
      · have := hb.2; omega
  have hoth : ∀ k, k < l.length → k ≠ i → ∀ q, (ys[k]?.getD sv0).c.val.ownBlock = some q → q ≠ g ∧ (W5.setCell ⟨sb, i * 11 + 10, none⟩ cv'.val).heap[q]? = w.heap[q]? := fun k hk hki q hq => by
    have hq2 := ((h.cut k hk).low hq).2
    have hqi : (ys[i]?.getD sv0).c.val.ownBlock ≠ some q := fun e => hki (h.dis k i q hk hil hq e)
    obtain ⟨zs', _, ho', _⟩ := h.cut k hk
    have hqs : q ≠ sb := fun e => rows_apart h.own ho' (by decide) rfl (by rw [hq, e])
    refine ⟨fun e => ?_, hold q hq2 hqi hqs⟩
    rcases hat with hx | hx
    · exact hqi (by rw [hx, e])
    · omega
  refine ⟨by simp [hl], ?_, fun b hb => ?_, fun b hb e => ?_, fun b hb y hy => ?_, fun k hk => ?_, fun k hk => ?_, fun a b q ha hb h1 h2 => ?_⟩
  · rw [← hset]
    exact (h.own.moveEq (w' := W5) fun q hq => by
      obtain rfl : sb = q := by simpa [Value.ownBlock] using hq
      exact hg.block sb hsbl (fun e => hne0 e.symm)).setAt hrow (by decide) rfl
  · rw [hsz]
    rcases hb with hb | hb
    · have := h.rng b hb; omega
    · have := hb.1; have := hb.2; omega
  · obtain rfl : sb = b := by simpa [Value.ownBlock] using e
    rcases hb with hb | hb
    · exact hFs _ hb rfl
    · have := hb.1; omega
  · rcases List.mem_or_eq_of_mem_set hy with hy | rfl
    · rcases hb with hb | hb
      · exact h.nc b hb y hy
      · intro e
        obtain ⟨k, hk, rfl⟩ := List.mem_iff_getElem.1 hy
        have := ((h.cut k (by omega)).low (g := b) (by rw [List.getElem?_eq_getElem hk]; exact e)).2
        have := hb.1; omega
    · intro e
      have e2 : cv'.val.ownBlock = some b := e
      rw [hv'] at e2
      exact hgF b hb (by simpa using e2.symm)
  · rw [List.length_set] at hk
    rw [getD_set hil, getD_set hyl]
    by_cases hki : k = i
    · rw [if_pos hki, if_pos hki]
      exact ⟨((h.dat i hil).1.move hFw).mono fun b hb => .inl hb, (h.dat i hil).2⟩
    · rw [if_neg hki, if_neg hki]
      exact ⟨((h.dat k hk).1.move hFw).mono fun b hb => .inl hb, (h.dat k hk).2⟩
  · rw [List.length_set] at hk
    rw [getD_set hil, getD_set hyl]
    by_cases hki : k = i
    · rw [if_pos hki, if_pos hki]
      refine ⟨zs.take r ++ z :: zs.drop r, ?_, ?_, fun j hj => ?_⟩
      · simp only [List.length_append, List.length_cons, List.length_take, List.length_drop]; omega
      · rw [map_insR] at hown
        exact hown.moveEq fun q hq => Below.heap_setCell _ _ _ _ (by
          rw [hv'] at hq
          obtain rfl := Option.some.inj hq
          exact hgn)
      · simp only at hj ⊢
        rw [getD_ins hr, getD_ins (by omega)]
        simp only [List.length_append, List.length_cons, List.length_take, List.length_drop] at hj
        by_cases h1 : j < r
        · rw [if_pos h1, if_pos h1]
          exact ((hzd j (by omega)).move hFw).mono fun b hb => .inl hb
        · rw [if_neg h1, if_neg h1]
          by_cases h2 : j = r
          · rw [if_pos h2, if_pos h2]
            exact (hz.move hBw).mono fun b hb => .inr hb
          · rw [if_neg h2, if_neg h2]
            exact ((hzd (j - 1) (by omega)).move hFw).mono fun b hb => .inl hb
    · rw [if_neg hki, if_neg hki]
      exact ((h.cut k hk).moveEq hFw fun q hq => (hoth k hk hki q hq).2).mono fun b hb => .inl hb
  · rw [List.length_set] at ha hb
    rw [getD_set hyl] at h1 h2
    by_cases hai : a = i
    · by_cases hbi : b = i
      · omega
      · rw [if_pos hai] at h1
        rw [if_neg hbi] at h2
        have h1' : cv'.val.ownBlock = some q := h1
        rw [hv'] at h1'
        obtain rfl := Option.some.inj h1'
        exact absurd rfl (hoth b hb hbi _ h2).1
    · rw [if_neg hai] at h1
      by_cases hbi : b = i
      · rw [if_pos hbi] at h2
        have h2' : cv'.val.ownBlock = some q := h2
        rw [hv'] at h2'
        obtain rfl := Option.some.inj h2'
        exact absurd rfl (hoth a ha hai _ h1).1
      · rw [if_neg hbi] at h2
        exact h.dis a b q ha hb h1 h2
end
end Go.Proofs.YthooiobhlbnaoaaGreat
namespace Go.Proofs.YthooiobhlbnaoaaGreat
open Go.RowKit
set_option linter.unusedVariables false

theorem vlt_trans {a b c : Vq} (hb : b.ok = true) (hc : c.ok = true) (h1 : vlt a b) (h2 : vlt b c) : vlt a c := by
  unfold vlt at *
  have pb := vbot_pos hb
  have pc := vbot_pos hc
  have na := vbot_nonneg a
  have e1 := Int.mul_lt_mul_of_pos_right h1 pc
  have e2 := Int.mul_le_mul_of_nonneg_right (Int.le_of_lt h2) na
  refine Int.lt_of_mul_lt_mul_right (a := b.bot) ?_ (Int.le_of_lt pb)
  calc a.top * c.bot * b.bot = a.top * b.bot * c.bot := by rw [Int.mul_assoc, Int.mul_comm c.bot, ← Int.mul_assoc]
    _ < b.top * a.bot * c.bot := e1
    _ = b.top * c.bot * a.bot := by rw [Int.mul_assoc, Int.mul_comm a.bot, ← Int.mul_assoc]
    _ ≤ c.top * b.bot * a.bot := e2
    _ = c.top * a.bot * b.bot := by rw [Int.mul_assoc, Int.mul_comm b.bot, ← Int.mul_assoc]
theorem vlt_of_not_vle {a b : Vq} (h : vle a b = false) : vlt b a := by
  unfold vle at h; unfold vlt
  rw [decide_eq_false_iff_not] at h; omega
theorem vlt_of_vle_ne {a b : Vq} (h : vle a b = true) (hn : veq b a = false) : vlt a b := by
  unfold vle at h; unfold veq at hn; unfold vlt
  rw [decide_eq_true_eq] at h
  rw [decide_eq_false_iff_not] at hn; omega
/-- The first cut that is not less. -/
theorem srch_spec (l : List Vq) (v : Vq) : (∀ i, i < srch l v → vle v (l[i]?.getD v0) = false) ∧ (srch l v < l.length → vle v (l[srch l v]?.getD v0) = true) := by
  unfold srch
  constructor
  · intro i hi
    have hl : i < l.length := Nat.lt_of_lt_of_le hi List.findIdx_le_length
    rw [List.getElem?_eq_getElem hl]
    have := List.not_of_lt_findIdx hi
    simpa using this
  · intro h
    rw [List.getElem?_eq_getElem h]
    exact List.findIdx_getElem (w := h)
/-- A cut more. -/
theorem CutsOk.ins {kd : Int} {l : List Vq} {v : Vq} (h : CutsOk kd l) (hg : v.good = true) (ho : v.ok = true) (hk : v.kd = kd) (hf : fnd l v = false) : CutsOk kd (l.take (srch l v) ++ v :: l.drop (srch l v)) := by
  have hmem : ∀ c ∈ l.take (srch l v) ++ v :: l.drop (srch l v), c = v ∨ c ∈ l := fun c hc => by
    rcases List.mem_append.1 hc with hc | hc
    · exact .inr (List.mem_of_mem_take hc)
    · rcases List.mem_cons.1 hc with hc | hc
      · exact .inl hc
      · exact .inr (List.mem_of_mem_drop hc)
  obtain ⟨s1, s2⟩ := srch_spec l v
  have hbef : ∀ a ∈ l.take (srch l v), vlt a v := fun a ha => by
    obtain ⟨i, hi, rfl⟩ := List.mem_iff_getElem.1 ha
    rw [List.length_take] at hi
    have h1 := s1 i (by omega)
    rw [List.getElem?_eq_getElem (by omega), Option.getD_some] at h1
    rw [List.getElem_take]
    exact vlt_of_not_vle h1
  have haft : ∀ b ∈ l.drop (srch l v), vlt v b := fun b hb => by
    obtain ⟨i, hi, rfl⟩ := List.mem_iff_getElem.1 hb
    rw [List.length_drop] at hi
    have hr : srch l v < l.length := by omega
    have hv := s2 hr
    have hne : veq (l[srch l v]?.getD v0) v = false := by
      unfold fnd at hf
      simpa [hr] using hf
    have h0 := vlt_of_vle_ne hv hne
    rw [List.getElem_drop]
    by_cases hi0 : i = 0
    · subst hi0
      rw [List.getElem?_eq_getElem hr, Option.getD_some] at h0
      simpa using h0
    · rw [List.getElem?_eq_getElem hr, Option.getD_some] at h0
      exact vlt_trans (h.ok _ (List.getElem_mem hr)) (h.ok _ (List.getElem_mem _)) h0 (List.pairwise_iff_getElem.1 h.inc _ _ hr (by omega) (by omega))
  refine ⟨fun c hc => ?_, fun c hc => ?_, fun c hc => ?_, ?_⟩
  · rcases hmem c hc with rfl | hc
    · exact hg
    · exact h.good c hc
  · rcases hmem c hc with rfl | hc
    · exact ho
    · exact h.ok c hc
  · rcases hmem c hc with rfl | hc
    · exact hk
    · exact h.kd c hc
  · rw [List.pairwise_append]
    refine ⟨h.inc.sublist (List.take_sublist _ _), ?_, fun a ha b hb => ?_⟩
    · rw [List.pairwise_cons]
      exact ⟨haft, h.inc.sublist (List.drop_sublist _ _)⟩
    · rcases List.mem_cons.1 hb with rfl | hb
      · exact hbef a ha
      · obtain ⟨i, hi, rfl⟩ := List.mem_iff_getElem.1 ha
        obtain ⟨j, hj, rfl⟩ := List.mem_iff_getElem.1 hb
        rw [List.length_take] at hi
        rw [List.length_drop] at hj
        rw [List.getElem_take, List.getElem_drop]
        exact List.pairwise_iff_getElem.1 h.inc _ _ (by omega) (by omega) (by omega)
theorem CutsOk.nil (kd : Int) : CutsOk kd [] := ⟨fun c h => (by cases h), fun c h => (by cases h), fun c h => (by cases h), List.Pairwise.nil⟩

/-- A scale that Scales makes. -/
structure ScOk (s : Sc) : Prop where
  good : s.e.good = true
  big : s.e.parts ≤ 200
  cuts : CutsOk s.kd s.cuts
  zero : s.kd = 0 → s.cuts = []
  len : s.cuts.length ≤ 32
structure TqOk (t : Tq) : Prop where
  good : t.sub.good = true
  big : t.sub.parts ≤ 200
  cut : t.kd ≠ 0 → t.cut.good = true ∧ t.cut.ok = true ∧ t.cut.kd = t.kd
structure ScsOk (l : List Sc) : Prop where
  each : ∀ s ∈ l, ScOk s
  len : l.length ≤ 16
theorem ok_kd {v : Vq} (h : v.ok = true) : v.kd ≠ 0 := by
  intro e
  have hf : v.fr = false := by unfold Vq.fr; rw [e]; rfl
  rw [ok_none hf (by omega)] at h
  cases h
theorem testOf_ok {a : Gx} (hg : a.good = true) (hp : a.parts ≤ 200) : TqOk (testOf a) := by
  have harg : ∀ k, k < a.args.length → (argAt a k).good = true ∧ (argAt a k).parts ≤ 200 := fun k hk => by
    have h1 := List.mem_of_getElem? (arg_some hk)
    have h2 := partsG_arg h1
    have h3 := partsG_args a
    exact ⟨good_args hg _ h1, by omega⟩
  by_cases hop : (a.op = 13 ∨ a.op = 14) ∧ a.args.length = 2
  · obtain ⟨ho, hl⟩ := hop
    have hcut : ∀ k, k < 2 → isCut (argAt a k) (argAt a (1 - k)) = true → TqOk (cutAt a k) := fun k hk hc => by
      obtain ⟨h1, h2⟩ := harg (1 - k) (by omega)
      obtain ⟨h3, h4⟩ := harg k (by omega)
      unfold isCut at hc
      simp only [Bool.and_eq_true] at hc
      exact ⟨h1, h2, fun _ => ⟨good_v h3, hc.2, rfl⟩⟩
    by_cases h0 : isCut (argAt a 0) (argAt a 1) = true
    · rw [testOf_zero ho hl h0]; exact hcut 0 (by omega) h0
    · have h0' : isCut (argAt a 0) (argAt a 1) = false := by simpa using h0
      by_cases h1 : isCut (argAt a 1) (argAt a 0) = true
      · rw [testOf_one ho hl h0' h1]; exact hcut 1 (by omega) h1
      · rw [testOf_not ho hl h0' (by simpa using h1)]; exact ⟨hg, hp, fun h => absurd rfl h⟩
  · have ht : testOf a = ⟨a, 0, v0, 0, false⟩ := by
      unfold testOf
      rw [if_neg]
      simp only [Bool.and_eq_true, Bool.or_eq_true, beq_iff_eq]
      exact hop
    rw [ht]; exact ⟨hg, hp, fun h => absurd rfl h⟩
theorem belongs_kd {t : Tq} {s : Sc} (h : t.belongs s = true) : t.kd = s.kd := by
  unfold Tq.belongs at h
  simp only [Bool.and_eq_true, beq_iff_eq] at h
  exact h.1
theorem belongs_at {t : Tq} {l : List Sc} (h : l.findIdx t.belongs < l.length) : t.belongs (l[l.findIdx t.belongs]?.getD default) = true := by
  rw [List.getElem?_eq_getElem h]
  exact List.findIdx_getElem (w := h)
theorem insS_ok {l l' : List Sc} {i : Nat} {t : Tq} (h : ScsOk l) (ht : TqOk t) (hi : i < l.length) (hb : t.kd = (l[i]?.getD default).kd) (he : insS l i t = some l') : ScsOk l' := by
  unfold insS at he
  by_cases hk : t.kd = 0
  · rw [if_pos hk] at he
    obtain rfl := Option.some.inj he
    exact h
  · rw [if_neg hk] at he
    rw [List.getElem?_eq_getElem hi, Option.getD_some] at he hb
    have hs := h.each _ (List.getElem_mem hi)
    obtain ⟨c1, c2, c3⟩ := ht.cut hk
    unfold insC at he
    by_cases hf : fnd l[i].cuts t.cut = true
    · rw [if_pos hf] at he
      simp only [Option.map_some, Option.some.injEq] at he
      subst he
      refine ⟨fun s hs' => ?_, by rw [List.length_set]; exact h.len⟩
      rcases List.mem_or_eq_of_mem_set hs' with hs' | rfl
      · exact h.each s hs'
      · exact hs
    · rw [if_neg hf] at he
      by_cases h32 : l[i].cuts.length = 32
      · rw [if_pos h32] at he; cases he
      · rw [if_neg h32] at he
        simp only [Option.map_some, Option.some.injEq] at he
        subst he
        refine ⟨fun s hs' => ?_, by rw [List.length_set]; exact h.len⟩
        rcases List.mem_or_eq_of_mem_set hs' with hs' | rfl
        · exact h.each s hs'
        · have hsl := srch_le l[i].cuts t.cut
          have := hs.len
          refine ⟨hs.good, hs.big, ?_, fun h0 => absurd (hb.trans h0) hk, ?_⟩
          · exact hs.cuts.ins c1 c2 (by rw [c3, hb]) (by simpa using hf)
          · simp only [List.length_append, List.length_cons, List.length_take, List.length_drop]; omega
theorem newSc_ok {l : List Sc} {t : Tq} (h : ScsOk l) (ht : TqOk t) (hl : l.length ≠ 16) : ScsOk (l ++ [⟨t.sub, t.kd, []⟩]) := by
  refine ⟨fun s hs => ?_, by have := h.len; rw [List.length_append, List.length_singleton]; omega⟩
  rcases List.mem_append.1 hs with hs | hs
  · exact h.each s hs
  · rw [List.mem_singleton.1 hs]
    exact ⟨ht.good, ht.big, CutsOk.nil _, fun _ => rfl, by simp⟩
theorem addT_ok {l l' : List Sc} {t : Tq} (h : ScsOk l) (ht : TqOk t) (he : addT l t = some l') : ScsOk l' := by
  unfold addT at he
  simp only at he
  by_cases hi : l.findIdx t.belongs < l.length
  · rw [if_pos hi] at he
    exact insS_ok h ht hi (belongs_kd (belongs_at hi)) he
  · rw [if_neg hi] at he
    by_cases hl : l.length = 16
    · rw [if_pos hl] at he; cases he
    · rw [if_neg hl] at he
      exact insS_ok (newSc_ok h ht hl) ht (by simp) (by simp) he
theorem addTs_append (l : List Sc) (a b : List Tq) : addTs l (a ++ b) = (addTs l a).bind fun l' => addTs l' b := by
  induction a generalizing l with
  | nil => rfl
  | cons t r ih =>
    rw [List.cons_append, addTs, addTs]
    cases addT l t with
    | none => rfl
    | some l' => exact ih l'
theorem addTs_snoc (l : List Sc) (a : List Tq) (t : Tq) : addTs l (a ++ [t]) = (addTs l a).bind fun l' => addT l' t := by
  rw [addTs_append]
  cases addTs l a with
  | none => rfl
  | some l' =>
    show (addT l' t).bind (fun l'' => addTs l'' []) = addT l' t
    cases addT l' t <;> rfl
end Go.Proofs.YthooiobhlbnaoaaGreat
namespace Go.Proofs.YthooiobhlbnaoaaGreat
open Go.RowKit
set_option linter.unusedVariables false

theorem wpListIn_store_blk {F : Fence} {nF : Nat} {ops : Array Oper} {rest : List Oper} {op : Oper} {a : Act} {w : World} {Q : Exit → Act → World → Prop} (hgd : op.guard = none) (ty t : TypeId) (x y : Operand) (ho : op.op = .store ty x y) (cs old : Array Value) (b : Nat)
    (hq : Blk w b old t) (hi : (Tryz.prog.info? ty).map (fun i => i.size) = some cs.size) (hsz : old.size = cs.size) (h1 : ∀ v ∈ cs, v.oneCell' = true)
    (hx : a.eval x = .pointer (some ⟨b, 0, none⟩)) (hy : a.eval y = .agg cs)
    (h : ∀ W', W' = w.setRow b cs → Blk W' b cs t → (∀ B, B ≤ b → Below B w W') → w.grownBy W' (some b) → W'.heap.size = w.heap.size → wpListIn F nF Tryz.prog ops Q rest (a.put op.dst undef) W') : wpListIn F nF Tryz.prog ops Q (op :: rest) a w := by
  have hs : (w.setRow b cs).heap.size = w.heap.size := by simp [World.setRow]
  have hh := h _ rfl (setRow_heap w b old cs t _ hq) (fun B hB => ⟨rfl, rfl, rfl, Nat.le_of_eq hs.symm, fun k hk => setRow_other w b k cs (by omega)⟩) ⟨rfl, rfl, rfl, Nat.le_of_eq hs.symm, fun k _ hk => setRow_other w b k cs (fun e => hk (by rw [e]))⟩ hs
  refine wpListIn_plain hgd fun K hK => ?_
  unfold Oper.wpIn
  refine ⟨by simp [Oper.about, ho], ?_⟩
  rw [Oper.semAt_plain F _ _ (by rw [ho]; intro c hc'; cases hc')]
  simp only [execOp, ho, hx, hy, Instr.storeAt, Instr.sureAddr, Sem.run_bind, Sem.run_pure, Result.andThen_ok, run_storeVar_row w b t ty old cs hq hi hsz (by rw [Array.all_eq_true_iff_forall_mem]; exact h1)]
  exact hK _ _ hh
theorem wpListIn_load_blk {F : Fence} {nF : Nat} {ops : Array Oper} {rest : List Oper} {op : Oper} {a : Act} {w : World} {Q : Exit → Act → World → Prop} (hgd : op.guard = none) (ty : TypeId) (x : Operand) (ho : op.op = .load ty x) (cs : Array Value) (b t : Nat) (d : TypeDesc)
    (hq : Blk w b cs t) (hu : Tryz.prog.underlying ty = some d) (hd : d.isRow = true) (hi : (Tryz.prog.info? ty).map (fun i => i.size) = some cs.size) (hx : a.eval x = .pointer (some ⟨b, 0, none⟩))
    (h : wpListIn F nF Tryz.prog ops Q rest (a.put op.dst (.agg cs)) w) : wpListIn F nF Tryz.prog ops Q (op :: rest) a w := by
  have hl := run_loadVar_mid (P := Tryz.prog) w b 0 ty cs.toList d hq.range hu hd (by rw [hi]; simp)
  refine wpListIn_plain hgd fun K hK => ?_
  unfold Oper.wpIn
  refine ⟨by simp [Oper.about, ho], ?_⟩
  rw [Oper.semAt_plain F _ _ (by rw [ho]; intro c hc'; cases hc')]
  simp only [execOp, ho, hx, Instr.loadAt, Instr.sureAddr, Sem.run_bind, Sem.run_pure, Result.andThen_ok, hl, Array.toArray_toList]
  exact hK _ _ h
theorem testZero : (Tryz.prog.info? 104).map (fun i => i.zero) = some (some (tq0 xz).agg) := by kernel_rfl

/-- The state between two tests: the scales so far, the results' cells. -/
structure ScW (B D : Nat) (w : World) (l : List Sc) (W : World) : Prop where
  v : ∃ v, Blk W D #[v] 34 ∧ ScOwn (D + 1) W v l
  ok : ScsOk l
  r0 : Blk W B #[.slice none 0 0] 34
  r1 : Blk W (B + 1) #[.int .i64 0] 35
  bel : Below B w W
  lt : B + 2 ≤ D
  sz : D + 1 ≤ W.heap.size
theorem blk_cells {W W' : World} {b t : Nat} {cs : Array Value} (h : Blk W b cs t) {row : Option Nat} (hg : W.grownBy W' row) (hr : ∀ k, row = some k → ∀ o, W.heap[k]? = some o → o.isCells = false) : Blk W' b cs t :=
  h.kept hg fun e => by have := hr b e.symm _ h; cases this
theorem ScW.kept {B D : Nat} {w W W' : World} {l : List Sc} {row : Option Nat} (h : ScW B D w l W) (hg : W.grownBy W' row) (hr : ∀ k, row = some k → B ≤ k ∧ ∀ o, W.heap[k]? = some o → o.isCells = false) : ScW B D w l W' := by
  obtain ⟨⟨v, h1, h2⟩, h3, h4, h5, h6, h7, h8⟩ := h
  have hr' : ∀ k, row = some k → ∀ o, W.heap[k]? = some o → o.isCells = false := fun k e => (hr k e).2
  refine ⟨⟨v, blk_cells h1 hg hr', h2.move ⟨fun b o _ ho hc => (hg.block b (Array.getElem?_eq_some_iff.1 ho).1 (fun e => by have := hr' b e.symm o ho; rw [hc] at this; cases this)).trans ho, hg.size⟩⟩, h3, blk_cells h4 hg hr', blk_cells h5 hg hr', h6.trans (below_grown hg (fun k e => (hr k e).1) (by omega)), h7, Nat.le_trans h8 hg.size⟩
/-- There are too many: the results say so. -/
structure ScE (B : Nat) (w : World) (W : World) : Prop where
  r0 : Blk W B #[.slice none 0 0] 34
  r1 : Blk W (B + 1) #[.int .i64 5] 35
  bel : Below B w W
  sz : B + 2 ≤ W.heap.size
theorem ScE.kept {B : Nat} {w W W' : World} {row : Option Nat} (h : ScE B w W) (hg : W.grownBy W' row) (hr : ∀ k, row = some k → B ≤ k ∧ ∀ o, W.heap[k]? = some o → o.isCells = false) : ScE B w W' := by
  have hr' : ∀ k, row = some k → ∀ o, W.heap[k]? = some o → o.isCells = false := fun k e => (hr k e).2
  exact ⟨blk_cells h.r0 hg hr', blk_cells h.r1 hg hr', h.bel.trans (below_grown hg (fun k e => (hr k e).1) (by have := h.sz; omega)), Nat.le_trans h.sz hg.size⟩
/-- The conditions that can be walked. -/
def Pg (a : Gx) : Prop := a.good = true ∧ a.parts ≤ 200
theorem pg_arg (e : Gx) (h : Pg e) : e.good = true ∧ ∀ a ∈ e.args, Pg a := ⟨h.1, fun a ha => ⟨good_args h.1 a ha, by have := partsG_arg ha; have := partsG_args e; have := h.2; omega⟩⟩
theorem TqX.grown {K : Nat} {W W' : World} {t : Tq} {y : Tv} (h : TqX K W t y) (hb : Below K W W') : TqX K W' t y := h.below hb (Nat.le_refl _) (Nat.le_refl _)
theorem below_putObj {K l : Nat} {W : World} {o' : Obj} (hK : K ≤ l) : Below K W (W.putObj l o') := ⟨rfl, rfl, rfl, by simp [World.putObj], fun k hk => World.putObj_heap_other (by omega)⟩
theorem KpG.grown {K : Nat} {A C : World} {row : Option Nat} (hg : A.grownBy C row) (hK : K ≤ A.heap.size) (hr : ∀ r, row = some r → K ≤ r ∧ ∀ cs, ¬ Blk A r cs 32) : KpE K A C :=
  ⟨below_grown hg (fun r h => (hr r h).1) hK, fun r cs hb => hb.kept hg (fun h => (hr r h.symm).2 cs hb)⟩
theorem KpG.trans {K : Nat} {A B C : World} (h1 : KpE K A B) (h2 : KpE K B C) : KpE K A C := ⟨h1.1.trans h2.1, fun r cs hb => h2.2 r cs (h1.2 r cs hb)⟩
theorem KpG.refl (K : Nat) (A : World) : KpE K A A := ⟨Below.refl _ _, fun _ _ h => h⟩
theorem KpG.putObj {K l : Nat} {W : World} {o o' : Obj} (hK : K ≤ l) (hl : W.heap[l]? = some o) (ho : o.isCells = false) : KpE K W (W.putObj l o') := by
  refine KpG.grown (grownBy_putObj' W l o') (by have := (Array.getElem?_eq_some_iff.1 hl).1; omega) (fun r e => ?_)
  cases e
  refine ⟨hK, fun cs hb => ?_⟩
  unfold Blk at hb; rw [hl] at hb; cases hb; simp [Obj.isCells] at ho

/-- The marks of loops that have ended, the last one first. -/
def mkD (D : Nat) : Deferred := { target := .collected D, args := #[] }
def DefOk (lo hi : Nat) (W : World) (ds : List Deferred) : Prop :=
  ∃ Ds : List Nat, ds = Ds.map mkD ∧ Ds.Pairwise (· > ·) ∧ ∀ D ∈ Ds, lo ≤ D ∧ D < hi ∧ W.heap[D]? = some (Obj.deferred (some []))
theorem DefOk.nil (lo hi : Nat) (W : World) : DefOk lo hi W [] := ⟨[], rfl, List.Pairwise.nil, fun D h => by cases h⟩
theorem DefOk.cons {lo hi hi' D : Nat} {W : World} {ds : List Deferred} (h : DefOk lo hi W ds) (hl : lo ≤ D) (hh : hi ≤ D) (hD' : D < hi') (hD : W.heap[D]? = some (Obj.deferred (some []))) : DefOk lo hi' W (mkD D :: ds) := by
  obtain ⟨Ds, rfl, h2, h3⟩ := h
  refine ⟨D :: Ds, rfl, List.pairwise_cons.2 ⟨fun D' hD' => ?_, h2⟩, fun D' hD'' => ?_⟩
  · have := (h3 D' hD').2.1; omega
  · rcases List.mem_cons.1 hD'' with rfl | hD''
    · exact ⟨hl, hD', hD⟩
    · obtain ⟨a, b, c⟩ := h3 D' hD''; exact ⟨a, by omega, c⟩
theorem DefOk.kept {lo hi : Nat} {W W' : World} {ds : List Deferred} {row : Option Nat} (h : DefOk lo hi W ds) (hg : W.grownBy W' row) (hr : ∀ k, row = some k → hi ≤ k ∨ ∀ o, W.heap[k]? = some o → o.isCells = true) : DefOk lo hi W' ds := by
  obtain ⟨Ds, h1, h2, h3⟩ := h
  refine ⟨Ds, h1, h2, fun D hD => ?_⟩
  obtain ⟨a, b, c⟩ := h3 D hD
  refine ⟨a, b, (hg.block D (Array.getElem?_eq_some_iff.1 c).1 fun e => ?_).trans c⟩
  rcases hr D e.symm with h | h
  · omega
  · have := h _ c; cases this
theorem DefOk.mono {lo hi hi' : Nat} {W : World} {ds : List Deferred} (h : DefOk lo hi W ds) (hh : hi ≤ hi') : DefOk lo hi' W ds := by
  obtain ⟨Ds, h1, h2, h3⟩ := h
  exact ⟨Ds, h1, h2, fun D hD => ⟨(h3 D hD).1, Nat.lt_of_lt_of_le (h3 D hD).2.1 hh, (h3 D hD).2.2⟩⟩
/-- All cells are as they were. -/
structure Shut (B : Nat) (W W' : World) : Prop where
  bel : Below B W W'
  cells : ∀ (b : Nat) (o : Obj), W.heap[b]? = some o → o.isCells = true → W'.heap[b]? = some o
theorem Shut.refl (B : Nat) (W : World) : Shut B W W := ⟨Below.refl _ _, fun _ _ h _ => h⟩
theorem leaves_ok {B lo hi n : Nat} {P : Program} {fn : Func} {tmps : Array Value} {R : Ending → World → Prop} {W : World} {ds : List Deferred} (h : DefOk lo hi W ds) (hB : B ≤ lo)
    (hQ : ∀ W', Shut B W W' → LeavesInM Fence.wide n P fn tmps R [] .returning W') : LeavesInM Fence.wide n P fn tmps R ds .returning W := by
  obtain ⟨Ds, rfl, h2, h3⟩ := h
  induction Ds generalizing W with
  | nil => exact hQ W (Shut.refl _ _)
  | cons D Ds ih =>
    obtain ⟨a, b, c⟩ := h3 D (by simp)
    obtain ⟨p1, p2⟩ := List.pairwise_cons.1 h2
    rw [List.map_cons, LeavesInM]
    refine ⟨by simp, .inl ⟨D, W.putObj D (Obj.deferred none), rfl, run_takeDeferred c, ih (fun W' hs => hQ W' ⟨(below_putObj (by omega)).trans hs.bel, fun q o ho hc => hs.cells q o ?_ hc⟩) p2 fun D' hD' => ?_⟩⟩
    · refine (World.putObj_heap_other fun e => ?_).trans ho
      rw [e, c] at ho
      obtain rfl := Option.some.inj ho
      cases hc
    · obtain ⟨a', b', c'⟩ := h3 D' (by simp [hD'])
      exact ⟨a', b', (World.putObj_heap_other (by have := p1 D' hD'; omega)).trans c'⟩
theorem Blk.shut {B b t : Nat} {W W' : World} {cs : Array Value} (h : Blk W b cs t) (hs : Shut B W W') : Blk W' b cs t := hs.cells b _ h rfl
/-- What a round's steps keep. -/
structure Rn (K s : Nat) (W W' : World) : Prop where
  kf : KeepsFrom s W W'
  kp : KpE K W W'
theorem Rn.refl (K s : Nat) (W : World) : Rn K s W W := ⟨KeepsFrom.refl _ _, KpG.refl _ _⟩
theorem Rn.trans {K s : Nat} {A B C : World} (h : Rn K s A B) (h' : Rn K s B C) : Rn K s A C := ⟨h.kf.trans h'.kf, KpG.trans h.kp h'.kp⟩
theorem Rn.grown {K s : Nat} {W W' : World} {row : Option Nat} (hg : W.grownBy W' row) (hK : K ≤ W.heap.size) (hr : ∀ r, row = some r → K ≤ r ∧ ∃ cs t, Blk W r cs t ∧ t ≠ 32) : Rn K s W W' := by
  refine ⟨(KeepsOthers.of_grownBy hg fun j o e ho => ?_).from _, KpG.grown hg hK fun r e => ⟨(hr r e).1, fun cs hb => ?_⟩⟩
  · obtain ⟨_, cs, t, hb, _⟩ := hr j e
    unfold Blk at hb; rw [hb] at ho; cases ho; rfl
  · obtain ⟨_, cs', t, hb', hne⟩ := hr r e
    exact hne (hb'.ty_ne hb)
theorem Rn.below {K s : Nat} {W W' : World} (h : Below W.heap.size W W') (hK : K ≤ W.heap.size) : Rn K s W W' := Rn.grown (grown_below h) hK (fun r e => by cases e)
theorem ScW.turn {B D : Nat} {w W W' : World} {l l' : List Sc} {v : Value} (h : ScW B D w l W) (hb : Below D W W') (hq : Blk W' D #[v] 34) (ho : ScOwn (D + 1) W' v l') (hk : ScsOk l') : ScW B D w l' W' :=
  ⟨⟨v, hq, ho⟩, hk, h.r0.below hb (by have := h.lt; omega), h.r1.below hb (by have := h.lt; omega), h.bel.trans (hb.mono (by have := h.lt; omega)), h.lt, by have := h.sz; have := hb.size; omega⟩
theorem insS_zero {l : List Sc} {i : Nat} {t : Tq} (h : t.kd = 0) : insS l i t = some l := by unfold insS; rw [if_pos h]
theorem insS_some {l : List Sc} {i : Nat} {t : Tq} {c : List Vq} (h : t.kd ≠ 0) (hc : insC (l[i]?.getD default).cuts t.cut = some c) : insS l i t = some (l.set i { (l[i]?.getD default) with cuts := c }) := by unfold insS; rw [if_neg h, hc]; rfl
theorem insS_none {l : List Sc} {i : Nat} {t : Tq} (h : t.kd ≠ 0) (hc : insC (l[i]?.getD default).cuts t.cut = none) : insS l i t = none := by unfold insS; rw [if_neg h, hc]; rfl
theorem set_same {l : List Sc} {i : Nat} (hi : i < l.length) : l.set i { (l[i]?.getD default) with cuts := (l[i]?.getD default).cuts } = l := by
  have : ({ (l[i]?.getD default) with cuts := (l[i]?.getD default).cuts } : Sc) = l[i] := by rw [List.getElem?_eq_getElem hi]; rfl
  rw [this, List.set_getElem_self]
theorem drew_grown (W : World) : W.grownBy W.drew none := ⟨rfl, rfl, rfl, Nat.le_refl _, fun _ _ _ => rfl⟩
/-- The results say that there are too many. -/
abbrev errW (B : Nat) (W : World) : World := (W.setCell ⟨B, 0, none⟩ (.slice none 0 0)).setCell ⟨B + 1, 0, none⟩ (.int .i64 5)
theorem ScW.err {B D : Nat} {w W : World} {l : List Sc} (h : ScW B D w l W) : ScE B w (errW B W) ∧ (∀ K s, K ≤ B → Rn K s W (errW B W)) ∧ (∀ lo hi ds, DefOk lo hi W ds → DefOk lo hi (errW B W) ds) := by
  have hlt := h.lt
  have hsz := h.sz
  have p0 := h.r0.set (i := 0) (.slice none 0 0)
  have p1 := h.r1.other (b' := B) (i := 0) (by omega) (.slice none 0 0)
  refine ⟨⟨p0.other (by omega) _, p1.set (i := 0) (.int .i64 5), (h.bel.setCell (Nat.le_refl _) _).setCell (by simp) _, by simp [World.setCell]; omega⟩, fun K s hK => ?_, fun lo hi ds hd => ?_⟩
  · exact (Rn.grown (grownBy_setCell W B 0 _) (by omega) (fun r e => by cases e; exact ⟨hK, _, _, h.r0, by decide⟩)).trans (Rn.grown (grownBy_setCell _ (B + 1) 0 _) (by simp [World.setCell]; omega) (fun r e => by cases e; exact ⟨by omega, _, _, p1, by decide⟩))
  · refine (hd.kept (grownBy_setCell W B 0 _) (fun q e => .inr fun o ho => ?_)).kept (grownBy_setCell _ (B + 1) 0 _) (fun q e => .inr fun o ho => ?_)
    · cases e; have h1 := h.r0; unfold Blk at h1; rw [h1] at ho; cases ho; rfl
    · cases e; have h1 := p1; unfold Blk at h1; rw [h1] at ho; cases ho; rfl
theorem ScsX.nilX (K : Nat) (w : World) : ScsX K w (.slice none 0 0) [] := ⟨fun _ => sv0, RowsV.nil none 0 (by simp [maxLen]) (fun _ => rfl), fun i h => absurd h (by simp)⟩
theorem ScsX.at {K : Nat} {w w' : World} {v : Value} {l : List Sc} (h : ScsX K w v l) (hb : Below K w w') (hs : K ≤ w'.heap.size) : ScsX w'.heap.size w' v l := h.below hb (Nat.le_refl _) hs
theorem Tryz.infoScaleG : (Tryz.prog.info? 48).map (fun i => (i.zero, i.size, i.bytes)) = some (some sv0.agg, 11, 160) := by kernel_rfl
theorem sv_cellR {w : World} {xb : Nat} {z : Sv} (h : Blk w xb z.cells 48) {i j : Nat} {r : List Value} {u : Value} (hi : [z.cells.toList][i]? = some r) (hj : r[j]? = some u) : w.cell? ⟨xb, 0 + (i * 11 + j), none⟩ = some u := by
  match i, hi with
  | 0, hi =>
    simp only [List.getElem?_cons_zero, Option.some.injEq] at hi
    subst hi
    have := h.at (i := j) (x := u) (by simpa using hj)
    rwa [show 0 + (0 * 11 + j) = j by omega]
  | i + 1, hi => simp at hi
end Go.Proofs.YthooiobhlbnaoaaGreat
namespace Go.Proofs.YthooiobhlbnaoaaGreat
open Go.RowKit
set_option linter.unusedVariables false
attribute [local go_sem] Oper.semAt_some

theorem testsL_snoc (l : List Gx) (k : Nat) (e : Gx) (h : l[k]? = some e) : tsL (l.take (k + 1)) = tsL (l.take k) ++ tsOf e := tsL_take l k e h

set_option maxRecDepth 100000 in
set_option maxHeartbeats 4000000 in
theorem scales_any (K : Nat) (v : Value) (l : List Gx) (g : Nat → Xv) (w : World) (hv : RowsV 9 (fun i j => (g i).cell j) K w v l.length) (hx : ∀ (i : Nat) (a : Gx), l[i]? = some a → ExG K w a (g i)) (hgood : ∀ a ∈ l, a.good = true) (hK : K ≤ w.heap.size) :
    Calls Tryz.prog 13 #[v] w fun e w' => ∃ v', e = .returned (.tuple #[v', .int .i64 (scalesS l).2]) ∧ ScsX w'.heap.size w' v' (scalesS l).1 ∧ Below w.heap.size w w' := by
  obtain ⟨va, vcap, rfl, hvl, hvm⟩ := id hv.form
  have HV := Lib.hid hv
  have HX := Lib.hid hx
  have HG := Lib.hid hgood
  obtain ⟨n, hn⟩ : ∃ n, l.length = n := ⟨_, rfl⟩
  have HN := Lib.hid hn
  rw [hn] at HV hvl ⊢
  unfold maxLen at hvm
  have hb0 : Below w.heap.size w ((w.alloc (.cells #[.slice none 0 0] 34)).alloc (.cells #[.int .i64 0] 35)) := ((Below.refl _ _).alloc (Nat.le_refl _) _).alloc (by simp) _
  have q0 : Blk ((w.alloc (.cells #[.slice none 0 0] 34)).alloc (.cells #[.int .i64 0] 35)) w.heap.size #[.slice none 0 0] 34 := (Blk.new w _ _).alloc _
  have q1 : Blk ((w.alloc (.cells #[.slice none 0 0] 34)).alloc (.cells #[.int .i64 0] 35)) (w.heap.size + 1) #[.int .i64 0] 35 := by
    have := Blk.new (w.alloc (.cells #[.slice none 0 0] 34)) #[.int .i64 0] 35
    rwa [World.size_alloc] at this
  have hs0 : ((w.alloc (.cells #[.slice none 0 0] 34)).alloc (.cells #[.int .i64 0] 35)).heap.size = w.heap.size + 2 := by simp
  obtain ⟨B, hB⟩ : ∃ B, w.heap.size = B := ⟨_, rfl⟩
  have HB := Lib.hid hB
  rw [hB] at hK hb0 q0 q1 hs0 ⊢
  clear hv hx hgood hn hB
  refine callsIn_wide.1 (callsIn_of_wp_marks (n := 5) Tryz.func13 rfl trivial ?_)
  simp only [Tryz.ntmps13, List.size_toArray, List.length_cons, List.length_nil, Nat.reduceAdd, Nat.reduceSub, Array.replicate_succ, Array.replicate_zero, List.push_toArray, List.append_toArray, List.nil_append, List.cons_append]
  gi_wp2_with fail
  simp only [HB.out]
  gi_loopw [13] (fun i wr => ∃ k : Nat, k ≤ n ∧ i = .int .i64 k ∧ Blk wr B #[.slice none 0 0] 34 ∧ Blk wr (B + 1) #[.int .i64 0] 35 ∧ Below B w wr ∧ B + 2 ≤ wr.heap.size ∧ Hid (∀ i, i < k → fits (l[i]?.getD default) = true)) (fun i _ => n - (intOf i).toNat)
  case atStart => exact ⟨0, Nat.zero_le _, rfl, q0, q1, hb0, by omega, Lib.hid fun i hi => absurd hi (Nat.not_lt_zero i)⟩
  case round =>
    obtain ⟨k, hk, rfl, r0, r1, hbr, hsr, HF⟩ := hrel
    by_cases hlt : k < n
    · obtain ⟨b, o, cap, he, _, hcm, hbK, hc⟩ := HV.out.pos (by omega)
      simp only [Value.slice.injEq, true_and] at he
      obtain ⟨rfl, rfl⟩ := he
      obtain ⟨k0, k1, k2, k3, k4, k5, k6, k7, k8⟩ := ex_cells (cells_below hbr (by omega) hc) hlt
      obtain ⟨ek, hek⟩ : ∃ ek, l[k]? = some ek := ⟨_, List.getElem?_eq_getElem (by rw [HN.out]; exact hlt)⟩
      have hq := HX.out k ek hek
      obtain ⟨y, hy⟩ : ∃ y, g k = y := ⟨_, rfl⟩
      rw [hy] at hq k0 k1 k2 k3 k4 k5 k6 k7 k8
      have hbl : Below B w (wr.alloc (.cells y.cells 32)) := hbr.alloc (by omega) _
      have hcall := sized_any B ek y (wr.alloc (.cells y.cells 32)) (hq.below hbl hK hK) (by simp; omega)
      have hbr' : b < wr.heap.size := by omega
      have HEK : Hid (l[k]?.getD default = ek) := Lib.hid (by rw [hek]; rfl)
      obtain ⟨r, hr⟩ : ∃ r, fits ek = r := ⟨_, rfl⟩
      rw [hr] at hcall
      have HR := Lib.hid hr
      have HBL := Lib.hid hbl
      have s0 := r0.alloc (.cells y.cells 32)
      have s1 := r1.alloc (.cells y.cells 32)
      have HS0 := Lib.hid s0
      have HS1 := Lib.hid s1
      clear hy hc hq hek hr hbl s0 s1 r0 r1
      gi_wp2_with fail
      refine ⟨trivial, callsIn_wide.2 (hcall.mono ?_)⟩
      clear hcall k0 k1 k2 k3 k4 k5 k6 k7 k8
      rintro en W2 ⟨rfl, hb2⟩
      have hb3 : Below B w W2 := HBL.out.trans (hb2.mono (by simp; omega))
      have hs2 := hb2.size
      rw [World.size_alloc] at hs2
      have t0 := HS0.out.below hb2 (by simp; omega)
      have t1 := HS1.out.below hb2 (by simp; omega)
      cases r with
      | false =>
        obtain ⟨c0, c1⟩ := t0.one
        obtain ⟨c2, c3⟩ := t1.one
        have HSC : Hid (scalesS l = ([], 2)) := Lib.hid (by
          unfold scalesS
          rw [if_neg]
          intro hall
          rw [List.all_eq_true] at hall
          have h1 := HEK.out
          rw [List.getElem?_eq_getElem (by rw [HN.out]; exact hlt), Option.getD_some] at h1
          have h2 := hall ek (by rw [← h1]; exact List.getElem_mem _)
          rw [HR.out] at h2; cases h2)
        gi_wp2_with fail
        have hb4 : Below B w ((W2.setCell ⟨B, 0, none⟩ (.slice none 0 0)).setCell ⟨B + 1, 0, none⟩ (.int .i64 2)) := (hb3.setCell (Nat.le_refl _) _).setCell (by simp) _
        have p0 : Blk ((W2.setCell ⟨B, 0, none⟩ (.slice none 0 0)).setCell ⟨B + 1, 0, none⟩ (.int .i64 2)) B #[.slice none 0 0] 34 := (t0.set (.slice none 0 0)).other (by omega) _
        have p1 : Blk ((W2.setCell ⟨B, 0, none⟩ (.slice none 0 0)).setCell ⟨B + 1, 0, none⟩ (.int .i64 2)) (B + 1) #[.int .i64 2] 35 := (t1.other (by omega) _).set (.int .i64 2)
        obtain ⟨W3, hW3⟩ : ∃ W3, (W2.setCell ⟨B, 0, none⟩ (.slice none 0 0)).setCell ⟨B + 1, 0, none⟩ (.int .i64 2) = W3 := ⟨_, rfl⟩
        rw [hW3] at hb4 p0 p1 ⊢
        have e0 := p0.one.1
        have e1 := p1.one.1
        refine ⟨.tuple #[.slice none 0 0, .int .i64 2], ?_, .slice none 0 0, ?_, ?_, hb4⟩
        · simp [results, Tryz.results13, go_sem, e0, e1]
        · rw [HSC.out]
        · rw [HSC.out]; exact ScsX.nilX _ _
      | true =>
        gi_wp2_with fail
        refine ⟨⟨k + 1, by omega, by go_num, t0, t1, hb3, by omega, Lib.hid fun i hi => ?_⟩, by simp [intOf]; omega⟩
        by_cases hik : i = k
        · rw [hik, HEK.out]; exact HR.out
        · exact HF.out i (by omega)
    · obtain rfl : k = n := by omega
      have HALL : Hid (l.all fits = true) := Lib.hid (by
        rw [List.all_eq_true]
        intro a ha
        obtain ⟨j, hj, rfl⟩ := List.mem_iff_getElem.1 ha
        have := HF.out j (by have := HN.out; omega)
        rwa [List.getElem?_eq_getElem hj] at this)
      clear q0 q1 hb0 hs0
      have hbD : Below B w (wr.alloc (.cells #[.slice none 0 0] 34)) := hbr.alloc (by omega) _
      have hSW : ScW B wr.heap.size w [] (wr.alloc (.cells #[.slice none 0 0] 34)) := ⟨⟨_, Blk.new wr _ _, ScOwn.nil _ _⟩, ⟨fun s h => (by cases h), by simp⟩, r0.alloc _, r1.alloc _, hbD, hsr, by simp⟩
      obtain ⟨D, hD⟩ : ∃ D, wr.heap.size = D := ⟨_, rfl⟩
      rw [hD] at hSW
      obtain ⟨WD, hWD⟩ : ∃ WD, wr.alloc (.cells #[.slice none 0 0] 34) = WD := ⟨_, rfl⟩
      rw [hWD] at hSW
      have HD := Lib.hid hD
      have HWD := Lib.hid hWD
      clear hD hWD hbD r0 r1 hbr hsr HF
      gi_wp2_with fail
      simp only [HD.out]
      rw [HWD.out]
      refine wpIn_loop (fun a' W => ∃ (j : Nat) (l2 : List Sc) (ds : List Deferred) (u5 u8 u14 u15 u16 u17 u18 u19 u20 u24 u25 u26 u27 u28 u62 : Value), j ≤ k ∧ Hid (addTs [] (tsL (l.take j)) = some l2) ∧ ScW B D w l2 W ∧ Hid (DefOk (B + 2) W.heap.size W ds) ∧ a' = { tmps := #[.slice va k vcap, undef, .pointer (some ⟨B, 0, none⟩), .pointer (some ⟨B + 1, 0, none⟩), undef, u5, .pointer (some ⟨D, 0, none⟩), undef, u8, undef, undef, .slice va k vcap, .int .i64 k, .int .i64 k, u14, u15, u16, u17, u18, u19, u20, .slice va k vcap, .int .i64 k, .int .i64 j, u24, u25, u26, u27, u28, undef, undef, undef, undef, undef, undef, undef, undef, undef, undef, undef, undef, undef, undef, undef, undef, undef, undef, undef, undef, undef, undef, undef, undef, undef, undef, undef, undef, undef, undef, undef, undef, undef, u62, undef], defers := ds }) (fun a' _ => k - (intOf (a'.tmps.getD 23 undef)).toNat) ?_ ?_
      · exact ⟨0, [], [], _, _, _, _, _, _, _, _, _, _, _, _, _, _, _, Nat.zero_le _, Lib.hid rfl, hSW, Lib.hid (DefOk.nil _ _ _), rfl⟩
      rintro a' wr ⟨j, l2, ds, u5, u8, u14, u15, u16, u17, u18, u19, u20, u24, u25, u26, u27, u28, u62, hj, HT, hS, HDS, rfl⟩
      have hkl : (k : Int) = k := rfl
      by_cases hlt : j < k
      · obtain ⟨b, o, cap, he, _, hcm, hbK, hc⟩ := HV.out.pos (by omega)
        simp only [Value.slice.injEq, true_and] at he
        obtain ⟨rfl, rfl⟩ := he
        have hBD := hS.lt
        have hDs := hS.sz
        obtain ⟨k0, k1, k2, k3, k4, k5, k6, k7, k8⟩ := ex_cells (cells_below hS.bel (by omega) hc) hlt
        obtain ⟨ek, hek⟩ : ∃ ek, l[j]? = some ek := ⟨_, List.getElem?_eq_getElem (by rw [HN.out]; exact hlt)⟩
        have hq := HX.out j ek hek
        have hem := List.mem_of_getElem? hek
        have hpg : Pg ek := ⟨HG.out ek hem, by
          have := List.all_eq_true.1 HALL.out ek hem
          unfold fits at this
          simp only [Bool.and_eq_true, decide_eq_true_eq] at this
          exact this.1⟩
        obtain ⟨y, hy⟩ : ∃ y, g j = y := ⟨_, rfl⟩
        rw [hy] at hq k0 k1 k2 k3 k4 k5 k6 k7 k8
        have hbr' : b < wr.heap.size := by omega
        have HTT : Hid (tsL (l.take (j + 1)) = tsL (l.take j) ++ tsOf ek) := Lib.hid (tsL_take l j ek hek)
        have HTD : Hid (tsL l = tsL (l.take j) ++ (tsOf ek ++ tsL (l.drop (j + 1)))) := Lib.hid (tsL_drop l j ek hek)
        have HQ := Lib.hid hq
        have HPG := Lib.hid hpg
        have HSS := Lib.hid hS
        obtain ⟨W0, hW0⟩ : ∃ W0, (wr.alloc (.cells y.cells 32)).alloc (.cells y.cells 32) = W0 := ⟨_, rfl⟩
        have hg0 : wr.grownBy W0 none := by rw [← hW0]; exact (World.grownBy_alloc wr _ none).trans (World.grownBy_alloc _ _ none)
        have hsz0 : W0.heap.size = wr.heap.size + 2 := by rw [← hW0]; simp
        have hq0 : Blk W0 (wr.heap.size + 1) y.cells 32 := by
          rw [← hW0]
          have := Blk.new (wr.alloc (.cells y.cells 32)) y.cells 32
          rwa [World.size_alloc] at this
        have HW0 := Lib.hid hW0
        clear hy hc hq hek hem hpg hS hW0
        gi_wp2_with fail
        refine ⟨trivial, callsIn_wide.2 ((tests_any y _).mono ?_)⟩
        rintro en w' ⟨rfl, rfl⟩
        clear k0 k1 k2 k3 k4 k5 k6 k7 k8
        gi_wp2_with fail
        rw [show (wr.alloc (.cells #[.int .u8 y.op, S y.nm, .int .u8 y.kd, .bool y.b3, .slice y.s4.a y.s4.n y.s4.m, .bool y.b5, .slice y.s6.a y.s6.n y.s6.m, .int .i64 y.i7, .slice y.s8.a y.s8.n y.s8.m] 32)).alloc (.cells y.cells 32) = W0 from HW0.out]
        obtain ⟨s0, hs0'⟩ : ∃ s0, wr.heap.size = s0 := ⟨_, rfl⟩
        simp only [hs0'] at hsz0 hq0 hDs hbr' ⊢
        have HDS' := HDS.out
        rw [hs0'] at HDS'
        have HD0 := Lib.hid HDS'
        clear HDS' HDS
        have hw0 : ScW B D w l2 W0 := HSS.out.kept hg0 (fun q e => by cases e)
        have hd0 := HD0.out.kept hg0 (fun q e => by cases e)
        refine range_law (gf := 94) (fi := #[]) (lb := #[.pointer (some ⟨s0 + 1, 0, none⟩)]) rfl (enters_of Tryz.func94 (by kernel_rfl) rfl) (tests_iter K (s0 + 1) Pg pg_arg ek y) (fun _ => rfl)
          (fun pre W => ∃ l3, addTs l2 (pre.map Prod.fst) = some l3 ∧ ScW B D w l3 W ∧ DefOk (B + 2) s0 W ds)
          (fun c pre W => c = .ret ∧ addTs l2 (pre.map Prod.fst) = none ∧ ScE B w W ∧ DefOk (B + 2) s0 W ds)
          (fun pre x a1 W => (∃ l3, addTs l2 (pre.map Prod.fst) = some l3 ∧ ScW B D w l3 W ∧ DefOk (B + 2) s0 W ds) ∧ TqX K W x.1 x.2 ∧ TqOk x.1 ∧ ∃ Bx, s0 + 2 ≤ Bx ∧ Blk W Bx x.2.cells 104 ∧
            a1 = { tmps := #[.slice (some ⟨b, o, none⟩) k vcap, undef, .pointer (some ⟨B, 0, none⟩), .pointer (some ⟨B + 1, 0, none⟩), undef, u5, .pointer (some ⟨D, 0, none⟩), undef, .pointer (some ⟨s0, 0, none⟩), .pointer (some ⟨Bx, 0, none⟩), undef, .slice (some ⟨b, o, none⟩) k vcap, .int .i64 k, .int .i64 k, u14, u15, u16, u17, u18, u19, u20, .slice (some ⟨b, o, none⟩) k vcap, .int .i64 k, .int .i64 j, .bool true, .pointer (some ⟨b, o + j * 9, none⟩), y.agg, y.agg, .func (.func 94) #[] #[.pointer (some ⟨s0 + 1, 0, none⟩)], x.2.agg, undef, undef, undef, undef, undef, undef, undef, undef, undef, undef, undef, undef, undef, undef, undef, undef, undef, undef, undef, undef, undef, undef, undef, undef, undef, undef, undef, undef, undef, undef, undef, undef, u62, undef], defers := [] })
          ?hSt ?hI ?hIx ?hA ?hS ?hSp ?hISt ?hIxSt ?hKt ?hKb ?h0 ?hPre ?hassign ?hbody ?hdone ?hstop
        case hSt => exact fun A C _ hg => KeepsFrom.of_grownBy hg (fun j e => by cases e)
        case hI =>
          rintro s W l o o' ⟨l3, h1, h2, h3⟩ hle hl ho
          exact ⟨l3, h1, h2.kept (grownBy_putObj' W l o') (fun q e => by cases e; exact ⟨by omega, fun o2 h2 => by rw [hl] at h2; cases h2; exact ho⟩), h3.kept (grownBy_putObj' W l o') (fun q e => by cases e; exact .inl (by omega))⟩
        case hIx =>
          rintro c s W l o o' ⟨h0, h1, h2, h3⟩ hle hl ho
          exact ⟨h0, h1, h2.kept (grownBy_putObj' W l o') (fun q e => by cases e; exact ⟨by omega, fun o2 h2 => by rw [hl] at h2; cases h2; exact ho⟩), h3.kept (grownBy_putObj' W l o') (fun q e => by cases e; exact .inl (by omega))⟩
        case hA =>
          rintro s x a1 W l o o' ⟨⟨l3, h1, h2, h3⟩, h4, h5, Bx, h6, h7, h8⟩ hle hl ho
          refine ⟨⟨l3, h1, h2.kept (grownBy_putObj' W l o') (fun q e => by cases e; exact ⟨by omega, fun o2 h2 => by rw [hl] at h2; cases h2; exact ho⟩), h3.kept (grownBy_putObj' W l o') (fun q e => by cases e; exact .inl (by omega))⟩, h4.grown (below_putObj (by omega)), h5, Bx, h6, h7.kept (grownBy_putObj' W l o') (fun e => ?_), h8⟩
          cases e
          unfold Blk at h7; rw [hl] at h7; cases h7; simp [Obj.isCells] at ho
        case hS => exact fun s W l o o' h _ _ _ => h
        case hSp => exact fun s W l o o' h _ _ _ => h
        case hISt => exact fun s A C ⟨l3, h1, h2, h3⟩ hg => ⟨l3, h1, h2.kept hg (fun q e => by cases e), h3.kept hg (fun q e => by cases e)⟩
        case hIxSt => exact fun c s A C ⟨h0, h1, h2, h3⟩ hg => ⟨h0, h1, h2.kept hg (fun q e => by cases e), h3.kept hg (fun q e => by cases e)⟩
        case hKt => exact fun A B C h1 h2 => KpG.trans h1 h2
        case hKb => exact fun W l o o' hle hl ho => KpG.putObj (by omega) hl ho
        case h0 =>
          intro o o'
          exact ⟨l2, rfl, (hw0.kept (World.grownBy_alloc _ o none) (fun q e => by cases e)).kept (World.grownBy_alloc _ o' none) (fun q e => by cases e), (hd0.kept (World.grownBy_alloc _ o none) (fun q e => by cases e)).kept (World.grownBy_alloc _ o' none) (fun q e => by cases e)⟩
        case hPre =>
          intro o o'
          have hb : Below B w ((W0.alloc o).alloc o') := (hw0.bel.alloc (by omega) o).alloc (by simp; omega) o'
          exact ⟨by simp; omega, (hq0.alloc _).alloc _, HQ.out.below hb hK (Nat.le_refl _), HPG.out⟩
        case hassign =>
          intro i pre x W ⟨l3, h1, h2, h3⟩ hx hlt
          have hx1 : x.2.cut.s1.oneCell' = true ∧ x.2.cut.s2.oneCell' = true := by
            obtain ⟨_, _, e1, _⟩ := hx.1.cut.n.form
            obtain ⟨_, _, e2, _⟩ := hx.1.cut.d.form
            rw [e1, e2]; exact ⟨rfl, rfl⟩
          have hone := cells_one x.2 hx1.1 hx1.2
          obtain ⟨a0, ha0, hpg0, hte⟩ : ∃ a0, a0 = x.1 ∧ True ∧ ∃ a, Pg a ∧ x.1 = testOf a := ⟨_, rfl, trivial, hx.2⟩
          obtain ⟨a, hpa, hta⟩ := hte
          have htq : TqOk x.1 := by rw [hta]; exact testOf_ok hpa.1 hpa.2
          have hTX := hx.1
          clear hx hx1 ha0 hpg0 hta hpa
          dsimp only [elEnc]
          iterate 5 gi_step
          refine wpListIn_store_blk rfl 104 104 (.tmp 9) (.tmp 29) rfl x.2.cells _ W.heap.size (Blk.new W _ _) infoTest rfl hone rfl rfl ?_
          intro W5 hw5 t1 t2 t3 t4
          rw [World.setRow_alloc_new] at hw5
          subst hw5
          gi_wp2
          exact ⟨(KeepsOthers.alloc _ _).from _, KpG.grown (World.grownBy_alloc W _ none) (by omega) (fun r e => by cases e), ⟨l3, h1, h2.kept (World.grownBy_alloc W _ none) (fun q e => by cases e), h3.kept (World.grownBy_alloc W _ none) (fun q e => by cases e)⟩,
            hTX.grown (below_grown (World.grownBy_alloc W _ none) (fun r e => by cases e) (by omega)), htq, W.heap.size, by omega, Blk.new W _ _, rfl⟩
        case hbody =>
          rintro i pre x a1 W ⟨⟨l3, h1, h2, h3⟩, hTX, htq, Bx, hBx, hbx, rfl⟩
          obtain ⟨v3, hqv, hown⟩ := h2.v
          have hread := hown.read
          obtain ⟨sa, sc, hv3, hlc, hcm3⟩ := hread.form
          subst hv3
          have hWs : D + 1 ≤ W.heap.size := h2.sz
          have hBW : B ≤ W.heap.size := by omega
          have hsW : s0 + 2 ≤ W.heap.size := by have := hbx.lt; omega
          have c4 := hqv.one.1
          have hidx := idxScale_any W.heap.size x.1 x.2 _ l3 W (hTX.below (Below.refl K W) (Nat.le_refl _) (by omega)) hread (Nat.le_refl _)
          have H1 := Lib.hid h1
          have H2 := Lib.hid h2
          have H3 := Lib.hid h3
          have HTX := Lib.hid hTX
          have HQT := Lib.hid htq
          have HBX := Lib.hid hbx
          have HQV := Lib.hid hqv
          have HOWN := Lib.hid hown
          clear h1 h2 h3 hTX htq hread hown hqv
          iterate 3 gi_step
          iterate 4 gi_step
          refine wpListIn_load_blk rfl 104 (.tmp 9) rfl x.2.cells Bx 104 _ HBX.out Tryz.underlying104 rfl infoTest rfl ?_
          gi_wp2_with fail
          refine ⟨trivial, CallsIn.inRound i (callsIn_wide.2 (hidx.mono ?_))⟩
          rintro en W2 ⟨rfl, hb2⟩
          clear hidx c4
          dsimp only
          iterate 8 gi_step
          rename_i K19 a19
          have hTXd : ∀ W', Below K W W' → TqX K W' x.1 x.2 := fun W' h => HTX.out.grown h
          have key : ∀ (l4 : List Sc) (m : Nat) (W3 : World) (z30 z31 z32 z33 z34 z35 z36 z37 z38 z39 z40 z41 z42 z43 z44 z45 z46 z47 z48 z49 : Value), m < l4.length → (l4[m]?.getD default).kd = x.1.kd → insS l4 m x.1 = addT l3 x.1 → ScW B D w l4 W3 → Rn K (s0 + 2) W W3 → DefOk (B + 2) s0 W3 ds → Blk W3 Bx x.2.cells 104 →
              K19 { tmps := #[.slice (some ⟨b, o, none⟩) k vcap, undef, .pointer (some ⟨B, 0, none⟩), .pointer (some ⟨B + 1, 0, none⟩), undef, u5, .pointer (some ⟨D, 0, none⟩), undef, .pointer (some ⟨s0, 0, none⟩), .pointer (some ⟨Bx, 0, none⟩), .int .i64 m, .slice (some ⟨b, o, none⟩) k vcap, .int .i64 k, .int .i64 k, u14, u15, u16, u17, u18, u19, u20, .slice (some ⟨b, o, none⟩) k vcap, .int .i64 k, .int .i64 j, .bool true, .pointer (some ⟨b, o + j * 9, none⟩), y.agg, y.agg, .func (.func 94) #[] #[.pointer (some ⟨s0 + 1, 0, none⟩)], x.2.agg, z30, z31, z32, z33, z34, z35, z36, z37, z38, z39, z40, z41, z42, z43, z44, z45, z46, z47, z48, z49, undef, undef, undef, undef, undef, undef, undef, undef, undef, undef, undef, undef, u62, undef], defers := [] } W3 := by
            intro l4 m W3 z30 z31 z32 z33 z34 z35 z36 z37 z38 z39 z40 z41 z42 z43 z44 z45 z46 z47 z48 z49 hm hmk hins hW4 hRn hD4 hb4
            refine a19 _ _ ?_
            clear a19
            have hadd : addTs l2 ((pre ++ [x]).map Prod.fst) = insS l4 m x.1 := by
              rw [List.map_append, List.map_singleton, addTs_snoc, H1.out, hins]; rfl
            have HADD := Lib.hid hadd
            obtain ⟨v4, hqv4, ys, F, ho4⟩ := hW4.v
            have hc4 := hqv4.one.1
            have hkx := HTX.out.kd
            have hcd := (hTXd W3 hRn.kp.1)
            by_cases hkd0 : x.1.kd = 0
            · have hk0 : (x.2.kd != 0) = false := by rw [hkx, hkd0]; rfl
              have hres := hadd.trans (insS_zero hkd0)
              have HRES := Lib.hid hres
              have HO4 := Lib.hid ho4
              clear hres hadd hins hmk hkx hkd0 hqv4 hc4 hcd ho4
              gi_step
              refine region_round (fun W' => Blk W' Bx x.2.cells 104) [] (by kernel_rfl) (by kernel_rfl) (by rintro ⟨_, _, h⟩; exact h) ?_
              have qS : (fun W' : World => Blk W' Bx x.2.cells 104) W3.drew := hb4
              refine wpAnyD_take (i := 0) (v := .pointer (some ⟨Bx, 9, none⟩)) rfl (by kernel_rfl) (by kernel_rfl) (by kernel_rfl) (by kernel_rfl) (by kernel_rfl) (fun _ _ _ h => h) (.inl ⟨by kernel_rfl, fun W' hS => by go_simp⟩) qS ?_
              refine wpAnyD_take (i := 1) (v := .int .u8 x.2.kd) rfl (by kernel_rfl) (by kernel_rfl) (by kernel_rfl) (by kernel_rfl) (by kernel_rfl) (fun _ _ _ h => h) (.inl ⟨by kernel_rfl, fun W' hS => by have d : W'.cell? ⟨Bx, 9, none⟩ = some (.int .u8 x.2.kd) := Blk.at hS rfl; go_simp⟩) qS ?_
              refine wpAnyD_take (i := 2) (v := .bool false) rfl (by kernel_rfl) (by kernel_rfl) (by kernel_rfl) (by kernel_rfl) (by kernel_rfl) (fun _ _ _ h => h) (.inl ⟨by kernel_rfl, fun W' hS => by go_simp⟩) qS ?_
              refine wpAnyD_take (i := 3) (v := .bool false) rfl (by kernel_rfl) (by kernel_rfl) (by kernel_rfl) (by kernel_rfl) (by kernel_rfl) (fun _ _ _ h => h) (.inl ⟨by kernel_rfl, fun W' hS => by go_simp⟩) qS ?_
              refine wpAnyD_take (i := 4) (v := undef) rfl (by kernel_rfl) (by kernel_rfl) (by kernel_rfl) (by kernel_rfl) (by kernel_rfl) (fun _ _ _ h => h) (.inr ⟨by kernel_rfl, rfl⟩) qS ?_
              refine wpAnyD_take (i := 5) (v := undef) rfl (by kernel_rfl) (by kernel_rfl) (by kernel_rfl) (by kernel_rfl) (by kernel_rfl) (fun _ _ _ h => h) (.inr ⟨by kernel_rfl, rfl⟩) qS ?_
              refine wpAnyD_take (i := 6) (v := undef) rfl (by kernel_rfl) (by kernel_rfl) (by kernel_rfl) (by kernel_rfl) (by kernel_rfl) (fun _ _ _ h => h) (.inr ⟨by kernel_rfl, rfl⟩) qS ?_
              refine wpAnyD_take (i := 7) (v := undef) rfl (by kernel_rfl) (by kernel_rfl) (by kernel_rfl) (by kernel_rfl) (by kernel_rfl) (fun _ _ _ h => h) (.inr ⟨by kernel_rfl, rfl⟩) qS ?_
              refine wpAnyD_take (i := 8) (v := undef) rfl (by kernel_rfl) (by kernel_rfl) (by kernel_rfl) (by kernel_rfl) (by kernel_rfl) (fun _ _ _ h => h) (.inr ⟨by kernel_rfl, rfl⟩) qS ?_
              refine wpAnyD_take (i := 9) (v := undef) rfl (by kernel_rfl) (by kernel_rfl) (by kernel_rfl) (by kernel_rfl) (by kernel_rfl) (fun _ _ _ h => h) (.inr ⟨by kernel_rfl, rfl⟩) qS ?_
              refine wpAnyD_take (i := 10) (v := undef) rfl (by kernel_rfl) (by kernel_rfl) (by kernel_rfl) (by kernel_rfl) (by kernel_rfl) (fun _ _ _ h => h) (.inr ⟨by kernel_rfl, rfl⟩) qS ?_
              refine wpAnyD_take (i := 11) (v := .bool false) rfl (by kernel_rfl) (by kernel_rfl) (by kernel_rfl) (by kernel_rfl) (by kernel_rfl) (fun _ _ _ h => h) (.inl ⟨by kernel_rfl, fun W' hS => by go_simp⟩) qS ?_
              refine wpAnyD_done (by kernel_rfl) ?_ _
              go_simp
              gi_wp2_with fail
              have hr3 := hRn.trans (Rn.grown (s := s0 + 2) (drew_grown W3) (by have := hRn.kp.1.size; omega) (fun r e => by cases e))
              exact ⟨hr3.kf, hr3.kp, l4, HRES.out, hW4.kept (drew_grown W3) (fun q e => by cases e), hD4.kept (drew_grown W3) (fun q e => by cases e)⟩
            · have hk0 : (x.2.kd != 0) = true := by rw [hkx]; simp [hkd0]
              have hmy : m < ys.length := by rw [ho4.len]; exact hm
              have hyn : (ys.map fun y => y.cells.toList).length = l4.length := by rw [List.length_map, ho4.len]
              have hrow := ho4.own.1.2
              rw [hyn] at hrow
              rcases hrow with ⟨_, h0⟩ | ⟨sb, cap4, cur4, hv4, hsb, hgr4, hnc4, hmx4, hsz4, htk4⟩
              · omega
              subst hv4
              have hbk : Blk W3 sb cur4 48 := hgr4
              obtain ⟨zs, hz1, hz2, hz3⟩ := ho4.cut m hm
              have hrd4 := (ho4.cut m hm).read fun b hb => (ho4.rng b hb).2
              obtain ⟨b', o', cap', he', _, _, _, hcl⟩ := ho4.own.rows.pos (by rw [hyn]; omega)
              simp only [Value.slice.injEq, Option.some.injEq, Addr.mk.injEq, and_true] at he'
              obtain ⟨⟨rfl, rfl⟩, hlen4, rfl⟩ := he'
              clear hlen4
              have hcell := hcl m (by rw [hyn]; exact hm) 10 (by omega)
              have hrm : (ys.map fun y => y.cells.toList)[m]? = some (ys[m]?.getD sv0).cells.toList := by rw [List.getElem?_map, List.getElem?_eq_getElem hmy]; rfl
              rw [hrm, Nat.zero_add] at hcell
              have hcell' : W3.cell? ⟨sb, m * 11 + 10, none⟩ = some (ys[m]?.getD sv0).c.val := hcell
              have hsok := hW4.ok.each _ (by rw [List.getElem?_eq_getElem hm]; exact List.getElem_mem hm : (l4[m]?.getD default) ∈ l4)
              obtain ⟨cg, co, ck⟩ := HQT.out.cut hkd0
              have hne4 : (ys[m]?.getD sv0).c.val.ownBlock ≠ some sb := rows_apart ho4.own hz2 (by decide) rfl
              have hKs3 : K ≤ W3.heap.size := by have := hRn.kp.1.size; omega
              have hci := ginsert_any W3.heap.size (D + 1) sb (m * 11) _ _ x.1.kd x.1.cut x.2.cut _ W3.drew (hrd4.below (below_quiet (Below.refl W3.heap.size W3)) (Nat.le_refl _) (Nat.le_refl _)) (hz2.moveEq fun _ _ => rfl) (by rw [List.length_map, hz1]) (hcd.cut.below (below_quiet (Below.refl K W3)) (Nat.le_refl _) hKs3) cg co ck (by rw [← hmk]; exact hsok.cuts) hsok.len (Nat.le_refl _) (by have := hW4.sz; exact this) hcell' (hbk.free _) hne4
              have HO4 := Lib.hid ho4
              have HZ2 := Lib.hid hz2
              have HZ3 := Lib.hid hz3
              have HC4 := Lib.hid hc4
              have HSOK := Lib.hid hsok
              have HMK := Lib.hid hmk
              have HINS := Lib.hid hins
              have HKD := Lib.hid hkd0
              have HHC := Lib.hid hcell'
              have HHC0 := Lib.hid hcell
              have HBK := Lib.hid hbk
              have HNE4 := Lib.hid hne4
              have hnb : m * 11 < l4.length * 11 := by omega
              have hmI : (m : Int) < (l4.length : Int) := by omega
              clear hadd hins hmk hkx hkd0 ho4 hz2 hz3 hrd4 hcl hcell hcell' hsok cg co ck hne4 hyn hgr4 hbk hsz4 htk4 hc4 hcd hrm
              have hsbl := HBK.out.lt
              gi_step
              refine region_round (fun W' => W'.cell? ⟨D, 0, none⟩ = some (.slice (some ⟨sb, 0, none⟩) l4.length cap4) ∧ Blk W' Bx x.2.cells 104) [] (by kernel_rfl) (by kernel_rfl) (by rintro ⟨_, _, h⟩; exact h) ?_
              have qS : (fun W' : World => W'.cell? ⟨D, 0, none⟩ = some (.slice (some ⟨sb, 0, none⟩) l4.length cap4) ∧ Blk W' Bx x.2.cells 104) W3.drew := ⟨HC4.out, hb4⟩
              refine wpAnyD_take (i := 0) (v := .pointer (some ⟨Bx, 9, none⟩)) rfl (by kernel_rfl) (by kernel_rfl) (by kernel_rfl) (by kernel_rfl) (by kernel_rfl) (fun _ _ _ h => h) (.inl ⟨by kernel_rfl, fun W' hS => by go_simp⟩) qS ?_
              refine wpAnyD_take (i := 1) (v := .int .u8 x.2.kd) rfl (by kernel_rfl) (by kernel_rfl) (by kernel_rfl) (by kernel_rfl) (by kernel_rfl) (fun _ _ _ h => h) (.inl ⟨by kernel_rfl, fun W' hS => by have d : W'.cell? ⟨Bx, 9, none⟩ = some (.int .u8 x.2.kd) := Blk.at hS.2 rfl; go_simp⟩) qS ?_
              refine wpAnyD_take (i := 2) (v := .bool true) rfl (by kernel_rfl) (by kernel_rfl) (by kernel_rfl) (by kernel_rfl) (by kernel_rfl) (fun _ _ _ h => h) (.inl ⟨by kernel_rfl, fun W' hS => by go_simp⟩) qS ?_
              refine wpAnyD_take (i := 3) (v := .bool true) rfl (by kernel_rfl) (by kernel_rfl) (by kernel_rfl) (by kernel_rfl) (by kernel_rfl) (fun _ _ _ h => h) (.inl ⟨by kernel_rfl, fun W' hS => by go_simp⟩) qS ?_
              refine wpAnyD_take (i := 4) (v := .slice (some ⟨sb, 0, none⟩) l4.length cap4) rfl (by kernel_rfl) (by kernel_rfl) (by kernel_rfl) (by kernel_rfl) (by kernel_rfl) (fun _ _ _ h => h) (.inl ⟨by kernel_rfl, fun W' hS => by have d := hS.1; go_simp⟩) qS ?_
              refine wpAnyD_take (i := 5) (v := .int .i64 m) rfl (by kernel_rfl) (by kernel_rfl) (by kernel_rfl) (by kernel_rfl) (by kernel_rfl) (fun _ _ _ h => h) (.inl ⟨by kernel_rfl, fun W' hS => by go_simp⟩) qS ?_
              refine wpAnyD_take (i := 6) (v := .pointer (some ⟨sb, m * 11, none⟩)) rfl (by kernel_rfl) (by kernel_rfl) (by kernel_rfl) (by kernel_rfl) (by kernel_rfl) (fun _ _ _ h => h) (.inl ⟨by kernel_rfl, fun W' hS => by go_simp⟩) qS ?_
              refine wpAnyD_take (i := 7) (v := .pointer (some ⟨Bx, 10, none⟩)) rfl (by kernel_rfl) (by kernel_rfl) (by kernel_rfl) (by kernel_rfl) (by kernel_rfl) (fun _ _ _ h => h) (.inl ⟨by kernel_rfl, fun W' hS => by go_simp⟩) qS ?_
              refine wpAnyD_take (i := 8) (v := x.2.cut.agg) rfl (by kernel_rfl) (by kernel_rfl) (by kernel_rfl) (by kernel_rfl) (by kernel_rfl) (fun _ _ _ h => h) (.inl ⟨by kernel_rfl, fun W' hS => by have d0 : W'.cell? ⟨Bx, 10, none⟩ = some (.int .u8 x.2.cut.kd) := Blk.at hS.2 rfl; have d1 : W'.cell? ⟨Bx, 11, none⟩ = some (.bool x.2.cut.b1) := Blk.at hS.2 rfl; have d2 : W'.cell? ⟨Bx, 12, none⟩ = some x.2.cut.s1 := Blk.at hS.2 rfl; have d3 : W'.cell? ⟨Bx, 13, none⟩ = some (.bool x.2.cut.b2) := Blk.at hS.2 rfl; have d4 : W'.cell? ⟨Bx, 14, none⟩ = some x.2.cut.s2 := Blk.at hS.2 rfl; have d5 : W'.cell? ⟨Bx, 15, none⟩ = some (.int .i64 x.2.cut.i) := Blk.at hS.2 rfl; go_simp⟩) qS ?_
              refine wpAnyD_one (i := 9) (by kernel_rfl) rfl (by kernel_rfl) ?_
              go_simp
              refine hci.mono ?_
              clear hci
              have hDl : D < W3.heap.size := by have := hW4.sz; omega
              have hBxl : Bx < W3.heap.size := hb4.lt
              have hKs : K ≤ s0 := by omega
              rintro en w6 (⟨hn, rfl, hb6⟩ | ⟨hf, rfl, hb6⟩ | ⟨hf, h32, rfl, z, cv', W5, gg, hi, rfl, ho5, hg5, hz5, hlo, hhi, hgv, hat⟩)
              · have hb6' : Below W3.heap.size W3 w6 := (below_quiet (Below.refl W3.heap.size W3)).trans hb6
                have hres : addTs l2 ((pre ++ [x]).map Prod.fst) = none := HADD.out.trans (insS_none HKD.out hn)
                have HRES := Lib.hid hres
                have hW6 := hW4.kept (grown_below hb6') (fun q e => by cases e)
                have hr6 := hRn.trans (Rn.below (s := s0 + 2) hb6' hKs3)
                have hD6 := hD4.kept (grown_below hb6') (fun q e => by cases e)
                obtain ⟨e1, e2, e3⟩ := hW6.err
                have q6 : w6.cell? ⟨D, 0, none⟩ = some (.slice (some ⟨sb, 0, none⟩) l4.length cap4) ∧ Blk w6 Bx x.2.cells 104 := ⟨(hb6'.cell (p := ⟨D, 0, none⟩) hDl).trans HC4.out, hb4.below hb6' hBxl⟩
                have c0 := hW6.r0.one
                have c1 := hW6.r1.one
                obtain ⟨c00, c01⟩ := c0
                obtain ⟨c10, c11⟩ := c1
                have HE1 := Lib.hid e1
                have HE2 := Lib.hid (e2 K (s0 + 2) (by omega))
                have HE3 := Lib.hid (e3 _ _ _ hD6)
                have HR6 := Lib.hid hr6
                clear hn hres e1 e2 e3 hD6 hr6 hW6
                refine ⟨q6, ?_⟩
                refine wpAnyD_take (i := 10) (v := .bool true) rfl (by kernel_rfl) (by kernel_rfl) (by kernel_rfl) (by kernel_rfl) (by kernel_rfl) (fun _ _ _ h => h) (.inl ⟨by kernel_rfl, fun W' hS => by go_simp⟩) q6 ?_
                refine wpAnyD_take (i := 11) (v := .bool true) rfl (by kernel_rfl) (by kernel_rfl) (by kernel_rfl) (by kernel_rfl) (by kernel_rfl) (fun _ _ _ h => h) (.inl ⟨by kernel_rfl, fun W' hS => by go_simp⟩) q6 ?_
                refine wpAnyD_done (by kernel_rfl) ?_ _
                go_simp
                gi_wp2_with fail
                exact ⟨(HR6.out.trans HE2.out).kf, (HR6.out.trans HE2.out).kp, rfl, HRES.out, HE1.out, HE3.out⟩
              · have hb6' : Below W3.heap.size W3 w6 := (below_quiet (Below.refl W3.heap.size W3)).trans hb6
                have hcx : insC (l4[m]?.getD default).cuts x.1.cut = some (l4[m]?.getD default).cuts := by unfold insC; rw [hf]; rfl
                have hres : addTs l2 ((pre ++ [x]).map Prod.fst) = some l4 := by rw [HADD.out, insS_some HKD.out hcx, set_same hm]
                have HRES := Lib.hid hres
                have hr6 := hRn.trans (Rn.below (s := s0 + 2) hb6' hKs3)
                have q6 : w6.cell? ⟨D, 0, none⟩ = some (.slice (some ⟨sb, 0, none⟩) l4.length cap4) ∧ Blk w6 Bx x.2.cells 104 := ⟨(hb6'.cell (p := ⟨D, 0, none⟩) hDl).trans HC4.out, hb4.below hb6' hBxl⟩
                have HR6 := Lib.hid hr6
                have HW6 := Lib.hid (hW4.kept (grown_below hb6') (fun q e => by cases e))
                have HD6 := Lib.hid (hD4.kept (grown_below hb6') (fun q e => by cases e))
                clear hf hcx hres hr6
                refine ⟨q6, ?_⟩
                refine wpAnyD_take (i := 10) (v := .bool false) rfl (by kernel_rfl) (by kernel_rfl) (by kernel_rfl) (by kernel_rfl) (by kernel_rfl) (fun _ _ _ h => h) (.inl ⟨by kernel_rfl, fun W' hS => by go_simp⟩) q6 ?_
                refine wpAnyD_take (i := 11) (v := .bool false) rfl (by kernel_rfl) (by kernel_rfl) (by kernel_rfl) (by kernel_rfl) (by kernel_rfl) (fun _ _ _ h => h) (.inl ⟨by kernel_rfl, fun W' hS => by go_simp⟩) q6 ?_
                refine wpAnyD_done (by kernel_rfl) ?_ _
                go_simp
                gi_wp2_with fail
                exact ⟨HR6.out.kf, HR6.out.kp, l4, HRES.out, HW6.out, HD6.out⟩
              · have hg6 : W3.grownBy W5 (ys[m]?.getD sv0).c.val.ownBlock := ⟨hg5.os, hg5.tape, hg5.output, hg5.size, hg5.block⟩
                obtain ⟨va, vn, hcv5, _⟩ := ho5.form
                obtain ⟨cl, hcl⟩ : ∃ cl : Sl, cv' = cl.val := ⟨⟨va, _, vn⟩, hcv5⟩
                subst hcl
                have hcx : insC (l4[m]?.getD default).cuts x.1.cut = some ((l4[m]?.getD default).cuts.take (srch (l4[m]?.getD default).cuts x.1.cut) ++ x.1.cut :: (l4[m]?.getD default).cuts.drop (srch (l4[m]?.getD default).cuts x.1.cut)) := by
                  unfold insC; rw [hf, if_neg h32]; rfl
                have hsome := insS_some HKD.out hcx
                have hres := HADD.out.trans hsome
                have hok5 := addT_ok H2.out.ok HQT.out (HINS.out.symm.trans hsome)
                have hnew := HO4.out.ins hm (srch_le _ _) hz1 HZ2.out HZ3.out ho5 hg6 hz5 hlo hhi hgv hat (by have := hW4.sz; omega)
                have hlow : ∀ r, (ys[m]?.getD sv0).c.val.ownBlock = some r → D + 1 ≤ r := fun r hr => HZ2.out.low hr
                have hblk : ∀ b, b < W3.heap.size → (ys[m]?.getD sv0).c.val.ownBlock ≠ some b → b ≠ sb → (W5.setCell ⟨sb, m * 11 + 10, none⟩ cl.val).heap[b]? = W3.heap[b]? := fun b hb hne hs => (Below.heap_setCell _ _ _ _ hs).trans (hg6.block b hb (fun e => hne e.symm))
                have hbD : (W5.setCell ⟨sb, m * 11 + 10, none⟩ cl.val).heap[D]? = W3.heap[D]? := hblk D hDl (fun e => by have := hlow D e; omega) (by omega)
                have hBxn : (ys[m]?.getD sv0).c.val.ownBlock ≠ some Bx := fun e => by
                  obtain ⟨_, h9⟩ := HZ2.out.blk e
                  exact absurd (h9.ty_ne hb4) (by decide)
                have hBxs : Bx ≠ sb := fun e => by
                  subst e
                  exact absurd (HBK.out.ty_ne hb4) (by decide)
                have hbB : (W5.setCell ⟨sb, m * 11 + 10, none⟩ cl.val).heap[Bx]? = W3.heap[Bx]? := hblk Bx hBxl hBxn hBxs
                have hbk5 : Blk W5 sb cur4 48 := HBK.out.kept hg6 (fun e => HNE4.out e.symm)
                have hbel : Below D W3 (W5.setCell ⟨sb, m * 11 + 10, none⟩ cl.val) := (below_grown hg6 (fun r e => by have := hlow r e; omega) (by omega)).setCell (by show D ≤ sb; omega) _
                have q6 : (W5.setCell ⟨sb, m * 11 + 10, none⟩ cl.val).cell? ⟨D, 0, none⟩ = some (.slice (some ⟨sb, 0, none⟩) l4.length cap4) ∧ Blk (W5.setCell ⟨sb, m * 11 + 10, none⟩ cl.val) Bx x.2.cells 104 := ⟨(World.cell?_of_block (w := W3) (a := ⟨D, 0, none⟩) hbD).trans HC4.out, hbB.trans hb4⟩
                have hr6 : Rn K (s0 + 2) W (W5.setCell ⟨sb, m * 11 + 10, none⟩ cl.val) := (hRn.trans (Rn.grown hg6 hKs3 (fun r e => by
                  obtain ⟨cc, h9⟩ := HZ2.out.blk e
                  exact ⟨by have := hlow r e; omega, cc, _, h9, by decide⟩))).trans (Rn.grown (grownBy_setCell W5 sb (m * 11 + 10) cl.val) (by have := hg6.size; omega) (fun r e => by cases e; exact ⟨by omega, cur4, _, hbk5, by decide⟩))
                have hD6 : DefOk (B + 2) s0 (W5.setCell ⟨sb, m * 11 + 10, none⟩ cl.val) ds := (hD4.kept hg6 (fun q e => .inr fun o ho => by
                  obtain ⟨cc, h9⟩ := HZ2.out.blk e
                  unfold Blk at h9; rw [h9] at ho; cases ho; rfl)).kept (grownBy_setCell W5 sb (m * 11 + 10) cl.val) (fun q e => .inr fun o ho => by
                  cases e
                  have h9 := hbk5
                  unfold Blk at h9; rw [h9] at ho; cases ho; rfl)
                have hW6 := hW4.turn hbel (hbD.trans hqv4) ⟨_, _, hnew⟩ hok5
                obtain ⟨W6, hW6e⟩ : ∃ W6, W5.setCell ⟨sb, m * 11 + 10, none⟩ cl.val = W6 := ⟨_, rfl⟩
                rw [hW6e] at q6 hr6 hD6 hW6 ⊢
                have HRES := Lib.hid hres
                have HR6 := Lib.hid hr6
                have HW6 := Lib.hid hW6
                have HD6 := Lib.hid hD6
                clear hf hcx hres hr6 hW6 hD6 hnew hok5 hsome hblk hbD hbB hbk5 hbel hg5 hg6 ho5 hz5 hlo hhi hgv hat hcv5 hlow hW6e
                refine ⟨q6, ?_⟩
                refine wpAnyD_take (i := 10) (v := .bool false) rfl (by kernel_rfl) (by kernel_rfl) (by kernel_rfl) (by kernel_rfl) (by kernel_rfl) (fun _ _ _ h => h) (.inl ⟨by kernel_rfl, fun W' hS => by go_simp⟩) q6 ?_
                refine wpAnyD_take (i := 11) (v := .bool false) rfl (by kernel_rfl) (by kernel_rfl) (by kernel_rfl) (by kernel_rfl) (by kernel_rfl) (fun _ _ _ h => h) (.inl ⟨by kernel_rfl, fun W' hS => by go_simp⟩) q6 ?_
                refine wpAnyD_done (by kernel_rfl) ?_ _
                go_simp
                gi_wp2_with fail
                exact ⟨HR6.out.kf, HR6.out.kp, _, HRES.out, HW6.out, HD6.out⟩
          have KEY := Lib.hid key
          clear key a19
          have hKW : K ≤ W.heap.size := by omega
          have hR2 : Rn K (s0 + 2) W W2 := Rn.below hb2 hKW
          have hW2 := H2.out.kept (grown_below hb2) (fun q e => by cases e)
          have hD2 := H3.out.kept (grown_below hb2) (fun q e => by cases e)
          have hB2 : Blk W2 Bx x.2.cells 104 := hbx.below hb2 hbx.lt
          have hq2 : Blk W2 D #[.slice sa l3.length sc] 34 := HQV.out.below hb2 (by omega)
          have ho2 := HOWN.out.move (keeps_grown (grown_below hb2))
          have HR2 := Lib.hid hR2
          have HW2 := Lib.hid hW2
          have HD2 := Lib.hid hD2
          have HB2 := Lib.hid hB2
          have HQ2 := Lib.hid hq2
          have HO2 := Lib.hid ho2
          have hsz2 := hb2.size
          clear hR2 hW2 hD2 hB2 hq2 ho2
          by_cases hfi : l3.findIdx x.1.belongs < l3.length
          · obtain ⟨m, hm⟩ : ∃ m, l3.findIdx x.1.belongs = m := ⟨_, rfl⟩
            have hix : idxS l3 x.1 = (m : Int) := by unfold idxS; rw [if_pos hfi, hm]
            have hmk := belongs_kd (belongs_at hfi)
            have hins : insS l3 m x.1 = addT l3 x.1 := by unfold addT; simp only; rw [if_pos hfi, hm]
            rw [hm] at hfi hmk
            have HMK := Lib.hid hmk
            have HINS := Lib.hid hins
            rw [hix]
            have hneg : decide ((m : Int) < 0) = false := by simp
            clear hm hix hmk hins
            gi_wp2_with fail
            exact KEY.out l3 m W2 _ _ _ _ _ _ _ _ _ _ _ _ _ _ _ _ _ _ _ _ hfi HMK.out.symm HINS.out HW2.out HR2.out HD2.out HB2.out
          · have hix : idxS l3 x.1 = -1 := by unfold idxS; rw [if_neg hfi]
            have c4 := HQ2.out.one.1
            rw [hix]
            clear hix
            by_cases h16 : l3.length = 16
            · have hres : addTs l2 ((pre ++ [x]).map Prod.fst) = none := by
                rw [List.map_append, List.map_singleton, addTs_snoc, H1.out]
                show addT l3 x.1 = none
                unfold addT; simp only; rw [if_neg hfi, if_pos h16]
              have HRES := Lib.hid hres
              have h16' : ((l3.length : Int) == 16) = true := by simp; omega
              obtain ⟨e1, e2, e3⟩ := HW2.out.err
              have HE1 := Lib.hid e1
              have HE2 := Lib.hid (e2 K (s0 + 2) (by omega))
              have HE3 := Lib.hid (e3 _ _ _ HD2.out)
              obtain ⟨c00, c01⟩ := HW2.out.r0.one
              obtain ⟨c10, c11⟩ := HW2.out.r1.one
              clear hres e1 e2 e3 h16 hfi
              gi_wp2_with fail
              exact ⟨(HR2.out.trans HE2.out).kf, (HR2.out.trans HE2.out).kp, rfl, HRES.out, HE1.out, HE3.out⟩
            · have h16' : ((l3.length : Int) == 16) = false := by simp; omega
              have HFI := Lib.hid hfi
              have H16 := Lib.hid h16
              clear hfi h16
              gi_wp2_with fail
              obtain ⟨ys, F, hO⟩ := HO2.out
              have hyl : (ys.map fun y => y.cells.toList).length = l3.length := by rw [List.length_map, hO.len]
              have hle16 := HW2.out.ok.len
              have hDl : D < W2.heap.size := by omega
              have hBxl : Bx < W2.heap.size := HB2.out.lt
              have hce := copyExpr_any W2.heap.size x.1.sub x.2.sub W2.drew (by have := HQT.out.big; omega) (HTX.out.sub.below (below_quiet (hb2.mono hKW)) (Nat.le_refl _) (by omega)) HQT.out.good (Nat.le_refl _)
              have HOO := Lib.hid hO
              have HYL := Lib.hid hyl
              clear c4 hO hyl h16'
              refine region_round (fun W' => W'.cell? ⟨D, 0, none⟩ = some (.slice sa l3.length sc) ∧ Blk W' Bx x.2.cells 104) [9] (by kernel_rfl) (by kernel_rfl) (by rintro ⟨_, _, h⟩; exact h) ?_
              have qS : (fun W' : World => W'.cell? ⟨D, 0, none⟩ = some (.slice sa l3.length sc) ∧ Blk W' Bx x.2.cells 104) W2.drew := ⟨HQ2.out.one.1, HB2.out⟩
              refine wpAnyD_takeC [9, 8] (i := 0) (v := .slice sa l3.length sc) rfl (by kernel_rfl) (by kernel_rfl) (by kernel_rfl) (by kernel_rfl) (by kernel_rfl) (by kernel_rfl) (fun _ _ _ h => h) (.inl ⟨by kernel_rfl, fun W' hS => by have d := hS.1; go_simp⟩) qS ?_
              refine wpAnyD_takeC [9, 8, 7, 6, 3, 2] (i := 1) (v := .pointer (some ⟨Bx, 0, none⟩)) rfl (by kernel_rfl) (by kernel_rfl) (by kernel_rfl) (by kernel_rfl) (by kernel_rfl) (by kernel_rfl) (fun _ _ _ h => h) (.inl ⟨by kernel_rfl, fun W' hS => by go_simp⟩) qS ?_
              refine wpAnyD_takeC [9, 8, 7, 6, 3] (i := 2) (v := x.2.sub.agg) rfl (by kernel_rfl) (by kernel_rfl) (by kernel_rfl) (by kernel_rfl) (by kernel_rfl) (by kernel_rfl) (fun _ _ _ h => h) (.inl ⟨by kernel_rfl, fun W' hS => by have d0 : W'.cell? ⟨Bx, 0, none⟩ = some (.int .u8 x.2.sub.op) := Blk.at hS.2 rfl; have d1 : W'.cell? ⟨Bx, 1, none⟩ = some (S x.2.sub.nm) := Blk.at hS.2 rfl; have d2 : W'.cell? ⟨Bx, 2, none⟩ = some (.int .u8 x.2.sub.kd) := Blk.at hS.2 rfl; have d3 : W'.cell? ⟨Bx, 3, none⟩ = some (.bool x.2.sub.b3) := Blk.at hS.2 rfl; have d4 : W'.cell? ⟨Bx, 4, none⟩ = some (.slice x.2.sub.s4.a x.2.sub.s4.n x.2.sub.s4.m) := Blk.at hS.2 rfl; have d5 : W'.cell? ⟨Bx, 5, none⟩ = some (.bool x.2.sub.b5) := Blk.at hS.2 rfl; have d6 : W'.cell? ⟨Bx, 6, none⟩ = some (.slice x.2.sub.s6.a x.2.sub.s6.n x.2.sub.s6.m) := Blk.at hS.2 rfl; have d7 : W'.cell? ⟨Bx, 7, none⟩ = some (.int .i64 x.2.sub.i7) := Blk.at hS.2 rfl; have d8 : W'.cell? ⟨Bx, 8, none⟩ = some (.slice x.2.sub.s8.a x.2.sub.s8.n x.2.sub.s8.m) := Blk.at hS.2 rfl; go_simp⟩) qS ?_
              refine wpAnyD_takeC [9, 8, 7, 6, 5] (i := 4) (v := .pointer (some ⟨Bx, 9, none⟩)) rfl (by kernel_rfl) (by kernel_rfl) (by kernel_rfl) (by kernel_rfl) (by kernel_rfl) (by kernel_rfl) (fun _ _ _ h => h) (.inl ⟨by kernel_rfl, fun W' hS => by go_simp⟩) qS ?_
              refine wpAnyD_takeC [9, 8, 7, 6] (i := 5) (v := .int .u8 x.2.kd) rfl (by kernel_rfl) (by kernel_rfl) (by kernel_rfl) (by kernel_rfl) (by kernel_rfl) (by kernel_rfl) (fun _ _ _ h => h) (.inl ⟨by kernel_rfl, fun W' hS => by have d : W'.cell? ⟨Bx, 9, none⟩ = some (.int .u8 x.2.kd) := Blk.at hS.2 rfl; go_simp⟩) qS ?_
              refine wpAnyD_one (i := 3) (by kernel_rfl) rfl (by kernel_rfl) ?_
              go_simp
              refine hce.mono ?_
              rintro en w3 ⟨ye, rfl, hz3, hb3⟩
              clear hce
              have hb3' : Below W2.heap.size W2 w3 := (below_quiet (Below.refl W2.heap.size W2)).trans hb3
              have q3 : w3.cell? ⟨D, 0, none⟩ = some (.slice sa l3.length sc) ∧ Blk w3 Bx x.2.cells 104 := ⟨(hb3.cell (p := ⟨D, 0, none⟩) hDl).trans qS.1, qS.2.below hb3 hBxl⟩
              refine ⟨q3, ?_⟩
              refine wpAnyD_one (i := 6) (by kernel_rfl) rfl (by kernel_rfl) ?_
              go_simp
              have HQ3 := Lib.hid q3
              have HB3 := Lib.hid hb3'
              have HZ3 := Lib.hid hz3
              have hs3 := hb3'.size
              clear q3 hz3 hb3 hb3' qS
              have hqn : Blk (w3.alloc (.cells (⟨ye, x.2.kd, ⟨none, 0, 0⟩⟩ : Sv).cells 48)) w3.heap.size (⟨ye, x.2.kd, ⟨none, 0, 0⟩⟩ : Sv).cells 48 := Blk.new w3 _ _
              have hb4 : Below W2.heap.size W2 (w3.alloc (.cells (⟨ye, x.2.kd, ⟨none, 0, 0⟩⟩ : Sv).cells 48)) := HB3.out.alloc hs3 _
              have q4 : (w3.alloc (.cells (⟨ye, x.2.kd, ⟨none, 0, 0⟩⟩ : Sv).cells 48)).cell? ⟨D, 0, none⟩ = some (.slice sa l3.length sc) ∧ Blk (w3.alloc (.cells (⟨ye, x.2.kd, ⟨none, 0, 0⟩⟩ : Sv).cells 48)) Bx x.2.cells 104 := ⟨(Below.cell ((Below.refl w3.heap.size w3).alloc (Nat.le_refl _) _) (p := ⟨D, 0, none⟩) (by show D < w3.heap.size; omega)).trans HQ3.out.1, HQ3.out.2.alloc _⟩
              have hown4 := HOO.out.own.old hb4 (Nat.le_refl _)
              have HRC : Hid (∀ (i : Nat) (r : List Value) (j : Nat) (u : Value), [(⟨ye, x.2.kd, ⟨none, 0, 0⟩⟩ : Sv).cells.toList][i]? = some r → r[j]? = some u → (w3.alloc (.cells (⟨ye, x.2.kd, ⟨none, 0, 0⟩⟩ : Sv).cells 48)).cell? ⟨w3.heap.size, 0 + (i * 11 + j), none⟩ = some u) := Lib.hid fun i r j u hi hj => sv_cellR hqn hi hj
              have HB4 := Lib.hid hb4
              have HQ4 := Lib.hid q4
              have HOW := Lib.hid HOO.out.own
              have hlow : ∀ r, (Value.slice sa l3.length sc).ownBlock = some r → D + 1 ≤ r ∧ r < W2.heap.size := fun r hr => ⟨HOW.out.low hr, HOW.out.lt hr⟩
              have HLOW := Lib.hid hlow
              obtain ⟨RS, hRS⟩ : ∃ RS, ys.map (fun y => y.cells.toList) = RS := ⟨_, rfl⟩
              rw [hRS] at hown4 HYL
              have HRS := Lib.hid hRS
              clear hqn hb4 q4 hRS hlow
              refine wpAnyD_one (i := 7) (by kernel_rfl) rfl (by kernel_rfl) ?_
              go_simp
              refine ⟨HQ4.out, ?_⟩
              refine wpAnyD_one (i := 8) (by kernel_rfl) rfl (by kernel_rfl) ?_
              refine wp_append_rows (.tmp 41) (.tmp 48) 34 rfl Tryz.underlying34 Tryz.infoScaleG (by kernel_rfl) (by decide) (by simp [Act.eval]) hown4 (b := w3.heap.size) (off := 0) (m := 1) (cap := 1) (ms := [(⟨ye, x.2.kd, ⟨none, 0, 0⟩⟩ : Sv).cells.toList]) (by simp [Act.eval]) rfl (sv_row _) HRC.out (by decide) (by rw [HYL.out]; simp [maxLen]; omega) (by rw [HYL.out]; omega) (by simp; omega) ?_
              intro g1 cap1 w5 hown5 hg5 hat5
              have hk5 : ∀ b, b < W2.heap.size → (Value.slice sa l3.length sc).ownBlock ≠ some b → w5.heap[b]? = W2.heap[b]? := fun b hb hne => (hg5.block b (by simp; omega) (fun e => hne e.symm)).trans (HB4.out.block b hb)
              have hDn : (Value.slice sa l3.length sc).ownBlock ≠ some D := fun e => by have := (HLOW.out D e).1; omega
              have hBn : (Value.slice sa l3.length sc).ownBlock ≠ some Bx := fun e => by
                obtain ⟨_, h9⟩ := HOW.out.blk e
                exact absurd (h9.ty_ne HB2.out) (by decide)
              have hqD : Blk w5 D #[.slice sa l3.length sc] 34 := (hk5 D hDl hDn).trans HQ2.out
              have hqB : Blk w5 Bx x.2.cells 104 := (hk5 Bx hBxl hBn).trans HB2.out
              have hg4 : W2.grownBy (w3.alloc (.cells (⟨ye, x.2.kd, ⟨none, 0, 0⟩⟩ : Sv).cells 48)) none := grown_below HB4.out
              have hz4 : Zed (Btw W2.heap.size w3.heap.size) (w3.alloc (.cells (⟨ye, x.2.kd, ⟨none, 0, 0⟩⟩ : Sv).cells 48)) (fun K W => ExG K W x.1.sub ye) := HZ3.out.move (agr_below ((Below.refl w3.heap.size w3).alloc (Nat.le_refl _) _) fun b hb => hb.2)
              have hatA : (Value.slice sa l3.length sc).ownBlock = some g1 ∨ w3.heap.size ≤ g1 := by
                rcases hat5 with h | h
                · exact .inl h
                · refine .inr ?_
                  have h9 : g1 = w3.heap.size + 1 := by simpa [World.size_alloc] using h
                  omega
              have hatB : (Value.slice sa l3.length sc).ownBlock = some g1 ∨ W2.heap.size ≤ g1 := hatA.imp id (fun h => Nat.le_trans hs3 h)
              have hnew := HOO.out.add hg4 hz4 (Nat.le_refl _) (by omega) (by simp) hg5 (by rw [HRS.out]; exact hown5) rfl hatA hatB
              rw [HTX.out.kd] at hnew
              have hs5 := hg5.size
              rw [World.size_alloc] at hs5
              have hown6 : ScOwn (D + 1) (w5.setCell ⟨D, 0, none⟩ (.slice (some ⟨g1, 0, none⟩) (RS.length + 1) cap1)) (.slice (some ⟨g1, 0, none⟩) (RS.length + 1) cap1) (l3 ++ [⟨x.1.sub, x.1.kd, []⟩]) := (show ScOwn (D + 1) w5 _ _ from ⟨_, _, hnew⟩).move ⟨fun b o hb ho _ => (Below.heap_setCell _ _ _ _ (by show b ≠ D; omega)).trans ho, by simp [World.setCell]⟩
              have hb5 : Below D W2 w5 := (HB4.out.mono (by omega)).grown hg5 (by simp; omega) (fun r hr => by have := (HLOW.out r hr).1; omega)
              have hb6 : Below D W2 (w5.setCell ⟨D, 0, none⟩ (.slice (some ⟨g1, 0, none⟩) (RS.length + 1) cap1)) := hb5.setCell (Nat.le_refl _) _
              have hok6 := newSc_ok HW2.out.ok HQT.out H16.out
              have hW6 := HW2.out.turn hb6 (hqD.set (i := 0) (.slice (some ⟨g1, 0, none⟩) (RS.length + 1) cap1)) hown6 hok6
              have hr6 : Rn K (s0 + 2) W (w5.setCell ⟨D, 0, none⟩ (.slice (some ⟨g1, 0, none⟩) (RS.length + 1) cap1)) := ((HR2.out.trans (Rn.below HB4.out (by omega))).trans (Rn.grown hg5 (by simp; omega) (fun r e => by
                obtain ⟨cc, h9⟩ := HOW.out.blk e
                exact ⟨by have := (HLOW.out r e).1; omega, cc, _, h9.below HB4.out (HLOW.out r e).2, by decide⟩))).trans (Rn.grown (grownBy_setCell w5 D 0 _) (by omega) (fun r e => by cases e; exact ⟨by omega, _, _, hqD, by decide⟩))
              have hD6 : DefOk (B + 2) s0 (w5.setCell ⟨D, 0, none⟩ (.slice (some ⟨g1, 0, none⟩) (RS.length + 1) cap1)) ds := ((HD2.out.kept hg4 (fun q e => by cases e)).kept hg5 (fun q e => .inr fun o ho => by
                obtain ⟨cc, h9⟩ := HOW.out.blk e
                have h10 := h9.below HB4.out (HLOW.out q e).2
                unfold Blk at h10; rw [h10] at ho; cases ho; rfl)).kept (grownBy_setCell w5 D 0 _) (fun q e => .inr fun o ho => by
                cases e
                have h9 := hqD
                unfold Blk at h9; rw [h9] at ho; cases ho; rfl)
              have hqB6 : Blk (w5.setCell ⟨D, 0, none⟩ (.slice (some ⟨g1, 0, none⟩) (RS.length + 1) cap1)) Bx x.2.cells 104 := hqB.other (by omega) _
              have hlen6 : l3.length < (l3 ++ [(⟨x.1.sub, x.1.kd, []⟩ : Sc)]).length := by simp
              have hkd6 : ((l3 ++ [(⟨x.1.sub, x.1.kd, []⟩ : Sc)])[l3.length]?.getD default).kd = x.1.kd := by simp
              have hins6 : insS (l3 ++ [(⟨x.1.sub, x.1.kd, []⟩ : Sc)]) l3.length x.1 = addT l3 x.1 := by unfold addT; simp only; rw [if_neg HFI.out, if_neg H16.out]
              have HALL6 := Lib.hid (show _ ∧ _ ∧ _ ∧ _ ∧ _ ∧ _ ∧ _ from ⟨hlen6, hkd6, hins6, hW6, hr6, hD6, hqB6⟩)
              have c5 := hqD.one.1
              have f5 := hqD.one.2
              refine ⟨fun _ => ⟨c5, hqB⟩, ?_⟩
              clear hlen6 hkd6 hins6 hW6 hr6 hD6 hqB6 hok6 hb6 hb5 hown6 hnew hz4 hg4 hqB hqD hBn hDn hk5 hown5 hg5 hat5 hown4
              refine wpAnyD_one (i := 9) (by kernel_rfl) rfl (by kernel_rfl) ?_
              go_simp
              refine wpAnyD_done (by kernel_rfl) ?_ _
              go_simp
              obtain ⟨y1, y2, y3, y4, y5, y6, y7⟩ := HALL6.out
              exact KEY.out _ l3.length _ _ _ _ _ _ _ _ _ _ _ _ _ _ _ _ _ _ _ _ _ y1 y2 y3 y4 y5 y6 y7
        case hdone =>
          rintro D' xs W hD hxs ⟨l3, h1, h2, h3⟩ hdef
          have hd' := h3.cons (hi' := W.heap.size) (D := D') (by omega) (by omega) (Array.getElem?_eq_some_iff.1 hdef).1 hdef
          unfold mkD at hd'
          have HD' := Lib.hid hd'
          have HL : Hid (addTs [] (tsL (l.take (j + 1))) = some l3) := Lib.hid (by rw [HTT.out, addTs_append, HT.out, ← hxs]; exact h1)
          clear hd' h3 hdef h1 hxs
          gi_wp2_with fail
          exact ⟨⟨j + 1, l3, _, _, _, _, _, _, _, _, _, _, _, _, _, _, _, _, by omega, HL, h2, HD', rfl⟩, by simp [intOf]; omega⟩
        case hstop =>
          rintro D' c pre W hD ⟨rest, hr⟩ ⟨rfl, h1, h2, h3⟩ hdef
          have hd' := h3.cons (hi' := W.heap.size) (D := D') (by omega) (by omega) (Array.getElem?_eq_some_iff.1 hdef).1 hdef
          unfold mkD at hd'
          have HSC : Hid (scalesS l = ([], 5)) := Lib.hid (by
            unfold scalesS
            rw [if_pos HALL.out]
            have h4 : addTs [] (tsL l) = none := by
              rw [HTD.out, addTs_append, HT.out]
              show addTs l2 (tsOf ek ++ tsL (l.drop (j + 1))) = none
              rw [← hr, List.append_assoc, addTs_append, h1]; rfl
            unfold tsL at h4
            rw [h4])
          gi_wp2_with fail
          refine leaves_ok (B := B) hd' (by omega) fun W4 hs => ?_
          have e0 := (h2.r0.shut hs).one.1
          have e1 := (h2.r1.shut hs).one.1
          refine ⟨.tuple #[.slice none 0 0, .int .i64 5], ?_, .slice none 0 0, ?_, ?_, h2.bel.trans hs.bel⟩
          · simp [results, Tryz.results13, go_sem, e0, e1]
          · rw [HSC.out]
          · rw [HSC.out]; exact ScsX.nilX _ _
      · obtain rfl : j = k := by omega
        obtain ⟨⟨v, hqv, hown⟩, hok, r0, r1, hbel, hBD, hDs⟩ := hS
        obtain ⟨c0, c1⟩ := r0.one
        obtain ⟨c2, c3⟩ := r1.one
        obtain ⟨c4, c5⟩ := hqv.one
        have HSC : Hid (scalesS l = (l2, 0)) := Lib.hid (by
          unfold scalesS
          rw [if_pos HALL.out]
          have h1 := HT.out
          have h2 : l.take j = l := List.take_of_length_le (by rw [HN.out]; exact Nat.le_refl _)
          rw [h2] at h1
          unfold tsL at h1
          rw [h1])
        have hread := hown.read
        obtain ⟨sa, sc, rfl, _⟩ := hread.form
        have hjj : decide ((j : Int) < (j : Int)) = false := by simp
        have HRD := Lib.hid hread
        have HOWN := Lib.hid hown
        have HR0 := Lib.hid r0
        have HR1 := Lib.hid r1
        have HQV := Lib.hid hqv
        clear hread hown r0 r1 hqv
        gi_wp2_with fail
        have hb4 : Below B w ((wr.setCell ⟨B, 0, none⟩ (.slice sa l2.length sc)).setCell ⟨B + 1, 0, none⟩ (.int .i64 0)) := (hbel.setCell (Nat.le_refl _) _).setCell (by simp) _
        have p0 : Blk ((wr.setCell ⟨B, 0, none⟩ (.slice sa l2.length sc)).setCell ⟨B + 1, 0, none⟩ (.int .i64 0)) B #[.slice sa l2.length sc] 34 := (HR0.out.set (.slice sa l2.length sc)).other (by omega) _
        have p1 : Blk ((wr.setCell ⟨B, 0, none⟩ (.slice sa l2.length sc)).setCell ⟨B + 1, 0, none⟩ (.int .i64 0)) (B + 1) #[.int .i64 0] 35 := (HR1.out.other (by omega) _).set (.int .i64 0)
        have ho : ScOwn (D + 1) ((wr.setCell ⟨B, 0, none⟩ (.slice sa l2.length sc)).setCell ⟨B + 1, 0, none⟩ (.int .i64 0)) (.slice sa l2.length sc) l2 := HOWN.out.move ⟨fun b o hb ho _ => ((Below.heap_setCell _ _ _ _ (by show b ≠ B + 1; omega)).trans (Below.heap_setCell _ _ _ _ (by show b ≠ B; omega))).trans ho, by simp [World.setCell]⟩
        have hd : DefOk (B + 2) wr.heap.size ((wr.setCell ⟨B, 0, none⟩ (.slice sa l2.length sc)).setCell ⟨B + 1, 0, none⟩ (.int .i64 0)) ds := (HDS.out.kept (grownBy_setCell wr B 0 _) (fun q e => .inr fun o ho => by simp at e; subst e; have h1 := HR0.out; unfold Blk at h1; rw [h1] at ho; cases ho; rfl)).kept (grownBy_setCell _ (B + 1) 0 _) (fun q e => .inr fun o ho => by
          simp at e; subst e
          have h1 := HR1.out.other (b' := B) (i := 0) (by omega) (.slice sa l2.length sc)
          unfold Blk at h1; rw [h1] at ho; cases ho; rfl)
        obtain ⟨W3, hW3⟩ : ∃ W3, (wr.setCell ⟨B, 0, none⟩ (.slice sa l2.length sc)).setCell ⟨B + 1, 0, none⟩ (.int .i64 0) = W3 := ⟨_, rfl⟩
        rw [hW3] at hb4 p0 p1 ho hd ⊢
        refine leaves_ok (B := B) hd (by omega) fun W4 hs => ?_
        have e0 := (p0.shut hs).one.1
        have e1 := (p1.shut hs).one.1
        refine ⟨.tuple #[.slice sa l2.length sc, .int .i64 0], ?_, .slice sa l2.length sc, ?_, ?_, hb4.trans hs.bel⟩
        · simp [results, Tryz.results13, go_sem, e0, e1]
        · rw [HSC.out]
        · rw [HSC.out]
          exact (ho.move ⟨fun b o _ ho hc => hs.cells b o ho hc, hs.bel.size⟩).read
end Go.Proofs.YthooiobhlbnaoaaGreat
