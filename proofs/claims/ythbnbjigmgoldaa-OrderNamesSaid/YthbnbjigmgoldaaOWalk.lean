/- Package order's iterator over the parts of an expression: walk, parts. No conditions beyond the readings of the arguments. -/
import Derived.Test.YthbnbjigmgoldaaOMap
import Derived.Test.YthbnbjigmgoldaaORF
import Derived.OrdersHeld
import Derived.Sort.QuietIn
namespace Go.Proofs.Ythbnbjigmgoldaa
open Go.RowKit
set_option linter.unusedVariables false
attribute [local go_sem] Oper.semAt_some

def Xv.enc (x : Xv) : Array Value := #[x.agg]
def Xv.key (x : Xv) : Int × Str := (x.op, x.nm)

/-- What a round keeps: what lay below K, and every box of an expression. -/
def KpE (K : Nat) (W W' : World) : Prop := Below K W W' ∧ ∀ r cs, Blk W r cs 45 → Blk W' r cs 45

theorem room_of_none {F : Fence} (hd : F.depth = none) (k : Nat) : F.room k := fun d h => by rw [hd] at h; cases h
theorem RoundIn.anyDepth {F : Fence} (hd : F.depth = none) {m m' : Nat} {P : Program} {l : Nat} {f : FuncId} {tmps : Array Value} {assign body : Code} {w : World} {R : Ending → World → Prop}
    (h : RoundIn F m P l f tmps assign body w R) : RoundIn F m' P l f tmps assign body w R := ⟨h.1, fun c cs _ => h.2 c cs (room_of_none hd _)⟩
theorem YieldAt.anyDepth {F : Fence} (hd : F.depth = none) {m : Nat} (m' : Nat) {P : Program} {l : Nat} {args : Array Value} {W : World} {R : Ending → World → Prop} (h : YieldAt F m P l args W R) : YieldAt F m' P l args W R := by
  obtain ⟨fn, tmps, assign, body, hy, hR⟩ := h
  exact ⟨fn, tmps, assign, body, hy, RoundIn.anyDepth hd hR⟩

theorem preL_take (es : List Ex) (k : Nat) (e : Ex) (h : es[k]? = some e) : preL (es.take (k + 1)) = preL (es.take k) ++ e.pre := by
  have hk := (List.getElem?_eq_some_iff.1 h).1
  rw [List.take_succ_eq_append_getElem hk, preL_append]
  have : es[k] = e := by rw [List.getElem?_eq_getElem hk] at h; exact Option.some.inj h
  rw [this]; simp [preL]

theorem preL_take_le (es : List Ex) (k : Nat) : (preL (es.take k)).length ≤ (preL es).length := by
  have h := congrArg preL (List.take_append_drop k es)
  rw [preL_append] at h
  rw [← h, List.length_append]; omega

/-- What a call of walk leaves. -/
def WalkPost (K : Nat) (J Jx : List Xv → World → Prop) (pre : List Xv) (ps : List (Int × Str)) (W : World) (en : Ending) (W' : World) : Prop :=
  (en = .returned (.bool true) ∧ ∃ xs : List Xv, xs.map Xv.key = ps ∧ J (pre ++ xs) W' ∧ Below K W W' ∧ W.heap.size ≤ W'.heap.size) ∨ (en = .returned (.bool false) ∧ ∃ xs, Jx (pre ++ xs) W')

set_option maxRecDepth 100000 in
set_option maxHeartbeats 2000000 in
theorem walk_in (l K N : Nat) (J Jx : List Xv → World → Prop) (hJ : ∀ s A B, J s A → A.grownBy B none → J s B)
    (hY : ∀ m pre x W, J pre W → x.nm.length ≤ maxLen ∧ pre.length < N → YieldAt Fence.wide m Try.prog l x.enc W fun e W' => (e = .returned (.bool true) ∧ J (pre ++ [x]) W' ∧ KpE K W W') ∨ (e = .returned (.bool false) ∧ Jx (pre ++ [x]) W' ∧ KpE K W W')) :
    ∀ (m : Nat) (e : Ex), e.parts ≤ m → ∀ (n : Nat) (x : Xv) (pre : List Xv) (W : World), ExX K W e x → K ≤ W.heap.size → J pre W → pre.length + e.pre.length ≤ N →
      CallsIn Fence.wide n Try.prog 48 #[x.agg, .func (.yield l) #[] #[]] W (WalkPost K J Jx pre e.pre W) := by
  intro m
  induction m with
  | zero => intro e hm; cases e; rw [parts_mk] at hm; omega
  | succ m ih =>
    intro e hm n x pre W h hK hj hN
    have hxn := h.nm
    cases e with
    | mk op nm es =>
    rw [ExX] at h
    obtain ⟨e0, e1, hnm, g, hg, hgs⟩ := h
    have hgs := exsX_iff.1 hgs
    rw [parts_mk] at hm
    have hp : ∀ {e : Ex}, e ∈ es → e.parts ≤ m := fun {e} he => by have := parts_arg he; omega
    obtain ⟨va, vcap, h8, hvl, hvm⟩ := hg.form
    obtain ⟨xop, xnm, kd, b3, ⟨a4, n4, m4⟩, b5, ⟨a6, n6, m6⟩, i7, ⟨a8, n8, m8⟩⟩ := x
    dsimp only at e0 e1 h8 hg hxn
    subst e0 e1
    simp only [Sl.val, Value.slice.injEq] at h8
    obtain ⟨rfl, rfl, rfl⟩ := h8
    have hvm : es.length ≤ maxLen := by omega
    clear hvl
    unfold maxLen at hvm
    obtain ⟨x, hx⟩ : ∃ x : Xv, x = ⟨xop, xnm, kd, b3, ⟨a4, n4, m4⟩, b5, ⟨a6, n6, m6⟩, i7, ⟨a8, es.length, m8⟩⟩ := ⟨_, rfl⟩
    rw [← hx]
    obtain ⟨W1, hW1⟩ : ∃ W1, W.alloc (.cells x.cells 45) = W1 := ⟨_, rfl⟩
    have hb1 : Below K W W1 := hW1 ▸ (Below.refl K W).alloc hK _
    have hs1 : W1.heap.size = W.heap.size + 1 := by rw [← hW1]; simp
    have hj1 : J pre W1 := hJ _ _ _ hj (hW1 ▸ World.grownBy_alloc W _ none)
    have q1 : Blk W1 W.heap.size x.cells 45 := hW1 ▸ Blk.new W _ _
    obtain ⟨fn, tmps, assign, body, hy, hR⟩ := hY (n - 1) pre x W1 hj1 ⟨by rw [hx]; exact hxn, by rw [Ex.pre, List.length_cons] at hN; omega⟩
    unfold Xv.enc at hy
    have hkey : Hid (x.key = (xop, xnm)) := by rw [hx]; rfl
    rw [hx] at hW1 q1 hy ⊢
    dsimp only [Xv.cells, Xv.agg] at hW1 q1 hy ⊢
    have HW1 := Lib.hid hW1
    clear hW1 hnm hxn hx
    refine callsIn_of_wp Try.func48 rfl trivial ?_
    simp only [Try.ntmps48, List.size_toArray, List.length_cons, List.length_nil, Nat.reduceAdd, Nat.reduceSub, Array.replicate_succ, Array.replicate_zero, List.push_toArray, List.append_toArray, List.nil_append, List.cons_append]
    rw [← HW1.out] at hy
    gi_wp2_with fail
    rw [HW1.out]
    refine ⟨wide_depth, hR.mono ?_⟩
    clear hR hy
    rintro en W2 (⟨rfl, hj2, hk2⟩ | ⟨rfl, hj2, hk2⟩)
    · obtain ⟨d0, d1, d2, d3, d4, d5, d6, d7, d8⟩ := (hk2.2 _ _ q1).nine
      have hb2 := hb1.trans hk2.1
      have hs2 : W.heap.size ≤ W2.heap.size := by have := (hk2.2 _ _ q1).lt; omega
      clear d0 d1 d2 d3 d4 d5 d6 d7 q1 hk2
      gi_wp2_with fail
      gi_loopw [14] (fun i wr => ∃ (k : Nat) (xs : List Xv), k ≤ es.length ∧ i = .int .i64 k ∧ xs.map Xv.key = (xop, xnm) :: preL (es.take k) ∧ J (pre ++ xs) wr ∧ Below K W wr ∧ W.heap.size ≤ wr.heap.size) (fun i _ => es.length - (intOf i).toNat)
      case atStart => exact ⟨0, [x], Nat.zero_le _, rfl, by simp [hkey.out, preL], hj2, hb2, hs2⟩
      case round =>
        obtain ⟨k, xs, hk, rfl, hxs, hjr, hbr, hsr⟩ := hrel
        by_cases hlt : k < es.length
        · obtain ⟨b, o, cap, he, _, hcm, hbK, hc⟩ := hg.pos (by omega)
          simp only [Sl.val, Value.slice.injEq, true_and] at he
          obtain ⟨rfl, rfl⟩ := he
          obtain ⟨k0, k1, k2, k3, k4, k5, k6, k7, k8⟩ := ex_cells (cells_below hbr hbK hc) hlt
          obtain ⟨ek, hek⟩ : ∃ ek, es[k]? = some ek := ⟨_, List.getElem?_eq_getElem hlt⟩
          have hq := hgs k ek hek
          rw [Nat.zero_add] at hq
          obtain ⟨y, hy⟩ : ∃ y, g k = y := ⟨_, rfl⟩
          rw [hy] at hq k0 k1 k2 k3 k4 k5 k6 k7 k8
          have hbl : Below K W (wr.alloc (.cells y.cells 45)) := hbr.alloc (by omega) _
          have hcall := ih ek (hp (List.mem_of_getElem? hek)) (n - 1) y (pre ++ xs) (wr.alloc (.cells y.cells 45)) (hq.below hbl (Nat.le_refl _) (Nat.le_refl _)) (by simp; omega) (hJ _ _ _ hjr (World.grownBy_alloc wr _ none)) (by
            have h1 := congrArg List.length hxs
            have h2 := preL_take_le es (k + 1)
            rw [preL_take es k ek hek, List.length_append] at h2
            rw [List.length_map, List.length_cons] at h1
            rw [Ex.pre, List.length_cons] at hN
            rw [List.length_append]; omega)
          have HT : Hid (preL (es.take (k + 1)) = preL (es.take k) ++ ek.pre) := Lib.hid (preL_take es k ek hek)
          have HXS := Lib.hid hxs
          clear hek hc hg hgs hxs ih hp hy
          gi_wp2_with fail
          refine ⟨trivial, wide_depth, hcall.mono ?_⟩
          clear hcall
          unfold WalkPost
          rintro en W3 (⟨rfl, ys, hys, hj3, hb3, hs3⟩ | ⟨rfl, ys, hj3⟩)
          · simp only [World.size_alloc] at hs3
            gi_wp2_with fail
            refine ⟨⟨k + 1, xs ++ ys, by omega, by go_num, ?_, ?_, hbl.trans hb3, by omega⟩, by simp [intOf]; omega⟩
            · rw [List.map_append, HXS.out, hys, HT.out]; rfl
            · rw [← List.append_assoc]; exact hj3
          · gi_wp2_with fail
            go_ret
            refine .inr ⟨rfl, xs ++ ys, ?_⟩
            rw [← List.append_assoc]; exact hj3
        · obtain rfl : k = es.length := by omega
          rw [List.take_length] at hxs
          have HXS := Lib.hid hxs
          clear hxs
          gi_wp2_with fail
          go_ret
          exact .inl ⟨rfl, xs, by rw [HXS.out]; rfl, hjr, hbr, hsr⟩
    · gi_wp2_with fail
      go_ret
      exact .inr ⟨rfl, [x], hj2⟩

set_option maxHeartbeats 1000000 in
/-- The iterator that parts hands back. -/
theorem parts_iter (K Bx : Nat) (e : Ex) (x : Xv) :
    IterSt (α := Xv) Try.prog 47 (fun i => #[] ++ #[.func (.yield i) #[] #[]] ++ #[.pointer (some ⟨Bx, 0, none⟩)]) Xv.enc (fun pre x W => x.nm.length ≤ maxLen ∧ pre.length < e.pre.length) (fun A B => A.grownBy B none) (KpE K)
      (fun xs W => xs.map Xv.key = e.pre) (fun _ _ => True) (fun W => K ≤ W.heap.size ∧ Blk W Bx x.cells 45 ∧ ExX K W e x) := by
  rintro n i J Jx W ⟨hK, hq, hx⟩ hJ hJx hY h0
  have hw := walk_in i K e.pre.length J Jx hJ (fun m pre x W hj hl => YieldAt.anyDepth rfl m (hY pre x W hj hl)) _ e (Nat.le_refl _) (n - 1) x [] W hx hK h0 (by simp)
  obtain ⟨d0, d1, d2, d3, d4, d5, d6, d7, d8⟩ := hq.nine
  dsimp only [Xv.agg, Xv.cells] at hw
  clear hY hq hx
  refine callsIn_of_wp Try.func47 rfl trivial ?_
  simp only [Try.ntmps47, List.size_toArray, List.length_cons, List.length_nil, Nat.reduceAdd, Nat.reduceSub, Array.replicate_succ, Array.replicate_zero, List.push_toArray, List.append_toArray, List.nil_append, List.cons_append]
  gi_wp2_with fail
  refine ⟨trivial, wide_depth, hw.mono ?_⟩
  clear hw
  unfold WalkPost
  rintro en W3 (⟨rfl, ys, hys, hj3, _, _⟩ | ⟨rfl, ys, hj3⟩)
  · gi_wp2_with fail
    go_end0
    exact ⟨⟨_, rfl⟩, .inl ⟨ys, hys, by simpa using hj3⟩⟩
  · gi_wp2_with fail
    go_end0
    exact ⟨⟨_, rfl⟩, .inr ⟨ys, trivial, by simpa using hj3⟩⟩

theorem parts_any (x : Xv) (w : World) : Calls Try.prog 35 #[x.agg] w fun e w' => e = .returned (.func (.func 47) #[] #[.pointer (some ⟨w.heap.size, 0, none⟩)]) ∧ w.alloc (.cells x.cells 45) = w' := by
  go_enter Try.func35, Try.ntmps35
  go_wp2_with fail
  go_ret
  exact ⟨rfl, rfl⟩

theorem wpListIn_append_S {F : Fence} {nF : Nat} {w : World} {ops : Array Oper} {rest : List Oper} {o : Oper} {a : Act} {Q : Exit → Act → World → Prop} (hgd : o.guard = none) (s x : Operand)
    (ho : o.op = .call { callee := .builtin .append, args := #[s, x], argTypes := #[29, 29] })
    {base : Nat} {v : Value} {l : List Str} {B c : Nat} {z : Str} (hs : a.eval s = v) (hx : a.eval x = .slice (some ⟨B, 0, none⟩) 1 c) (hown : OwnS base w v l) (hb : w.cell? ⟨B, 0, none⟩ = some (S z)) (hz : z.length ≤ maxLen)
    (h63 : l.length + 1 ≤ 2 ^ 40) (hbase : base ≤ w.heap.size)
    (h : ∀ g cap w', OwnS base w' (.slice (some ⟨g, 0, none⟩) (l.length + 1) cap) (l ++ [z]) → w.grownBy w' v.ownBlock → (v.ownBlock = some g ∨ g = w.heap.size) → wpListIn F nF Try.prog ops Q rest (a.put o.dst (.slice (some ⟨g, 0, none⟩) (l.length + 1) cap)) w') : wpListIn F nF Try.prog ops Q (o :: rest) a w := by
  obtain ⟨i0, hi, hz0, hz1, hz2⟩ := info_parts Try.infoStr
  obtain ⟨g, cap, w', hr, h2, h3, h4, h5⟩ := run_append_lies (P := Try.prog) w 29 o.type base 9 i0 _ 1 16 Try.underlying29 hi hz0 hz1 hz2 rfl (by decide) v l.length (l.map S) hown.1 ⟨B, 0, none⟩ 1 c [S z] rfl
    (fun j u hj => by
      match j, hj with
      | 0, hj =>
        simp only [List.getElem?_cons_zero, Option.some.injEq] at hj
        subst hj
        simpa [Addr.add] using hb)
    (by simp [Value.oneCell']) (by decide) (by simp [maxLen]; omega) (by omega) hbase _ rfl
  refine wpListIn_plain hgd fun K hK => ?_
  unfold Oper.wpIn
  refine ⟨by simp [Oper.about, ho, resolve, Target.leads, Sem.run_pure], ?_⟩
  rw [Oper.semAt_plain F _ _ (by rw [ho]; intro c hc'; cases hc')]
  simp [execOp, ho, resolve, invoke, builtin, hs, hx, hr, Result.andThen]
  refine hK _ _ (h g cap w' ⟨?_, ?_⟩ h3 h4)
  · rw [List.length_append, List.map_append]
    exact h2
  · intro s hs'
    rcases List.mem_append.1 hs' with h' | h'
    · exact hown.2 s h'
    · simp at h'; subst h'; exact hz
end Go.Proofs.Ythbnbjigmgoldaa
