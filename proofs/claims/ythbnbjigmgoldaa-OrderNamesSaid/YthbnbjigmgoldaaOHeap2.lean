/- container/heap: Push, Pop, at order's ready. No conditions beyond those stated. -/
import Derived.Test.YthbnbjigmgoldaaOHeap
namespace Go.Proofs.Ythbnbjigmgoldaa
open Go.RowKit
set_option linter.unusedVariables false

/-- w' is w but for new blocks and the blocks of which No holds. -/
structure Turns (w w' : World) (No : Nat → Prop) : Prop where
  os : w'.os = w.os
  tape : w'.tape = w.tape
  output : w'.output = w.output
  size : w.heap.size ≤ w'.heap.size
  block : ∀ b, b < w.heap.size → ¬ No b → w'.heap[b]? = w.heap[b]?
theorem Turns.refl (w : World) (No : Nat → Prop) : Turns w w No := ⟨rfl, rfl, rfl, Nat.le_refl _, fun _ _ _ => rfl⟩
theorem Turns.trans {a b c : World} {No : Nat → Prop} (h : Turns a b No) (k : Turns b c No) : Turns a c No :=
  ⟨k.os.trans h.os, k.tape.trans h.tape, k.output.trans h.output, Nat.le_trans h.size k.size, fun i hi hn => (k.block i (Nat.lt_of_lt_of_le hi h.size) hn).trans (h.block i hi hn)⟩
theorem Turns.mono {a b : World} {No No' : Nat → Prop} (h : Turns a b No) (hn : ∀ i, i < a.heap.size → No i → No' i) : Turns a b No' := ⟨h.os, h.tape, h.output, h.size, fun i hi hni => h.block i hi (fun hx => hni (hn i hi hx))⟩
theorem turns_grown {a b : World} {row : Option Nat} (h : a.grownBy b row) : Turns a b (fun i => row = some i) := ⟨h.os, h.tape, h.output, h.size, fun i hi hn => h.block i hi (fun e => hn e.symm)⟩
theorem Turns.below {a b : World} {No : Nat → Prop} {B : Nat} (h : Turns a b No) (hB : B ≤ a.heap.size) (hn : ∀ i, No i → B ≤ i) : Below B a b :=
  ⟨h.os, h.tape, h.output, h.size, fun i hi => h.block i (by omega) (fun hx => by have := hn i hx; omega)⟩
theorem OwnN.turns {a b : World} {No : Nat → Prop} {base : Nat} {v : Value} {l : List Nat} (h : OwnN base a v l) (ht : Turns a b No) (hn : ∀ r, v.ownBlock = some r → ¬ No r) : OwnN base b v l :=
  ownsRow_at h fun g hg => ht.block g (ownsRow_lt h hg) (hn g hg)
theorem Blk.turns {a b : World} {No : Nat → Prop} {r t : Nat} {cs : Array Value} (h : Blk a r cs t) (ht : Turns a b No) (hn : ¬ No r) : Blk b r cs t := (ht.block r h.lt hn).trans h

theorem wpList_append_R {w : World} {ops : Array Oper} {rest : List Oper} {o : Oper} {a : Act} {Q : Exit → Act → World → Prop} (hgd : o.guard = none) (s x : Operand)
    (ho : o.op = .call { callee := .builtin .append, args := #[s, x], argTypes := #[87, 87] })
    {base : Nat} {v : Value} {zs : List Nat} {B c : Nat} {z : Nat} (hs : a.eval s = v) (hx : a.eval x = .slice (some ⟨B, 0, none⟩) 1 c) (hown : OwnN base w v zs) (hb : w.cell? ⟨B, 0, none⟩ = some (Z z))
    (h63 : zs.length + 1 ≤ 2 ^ 40) (hbase : base ≤ w.heap.size)
    (h : ∀ g cap w', OwnN base w' (.slice (some ⟨g, 0, none⟩) (zs.length + 1) cap) (zs ++ [z]) → w.grownBy w' v.ownBlock → (v.ownBlock = some g ∨ g = w.heap.size) → wpList Try.prog ops Q rest (a.put o.dst (.slice (some ⟨g, 0, none⟩) (zs.length + 1) cap)) w') : wpList Try.prog ops Q (o :: rest) a w := by
  obtain ⟨i0, hi, hz0, hz1, hz2⟩ := info_parts Try.infoI
  refine wpList_append_lies w hgd s x 87 ho base 3 i0 _ 1 8 Try.underlying87 hi hz0 hz1 hz2 rfl (by decide) v zs.length (zs.map Z) hs hown ⟨B, 0, none⟩ 1 c [Z z] hx rfl
    (fun j u hj => by
      match j, hj with
      | 0, hj =>
        simp only [List.getElem?_cons_zero, Option.some.injEq] at hj
        subst hj
        simpa [Addr.add] using hb)
    (by simp [Value.oneCell']) (by decide) (by simp [maxLen]; omega) (by omega) hbase _ rfl fun g cap w' h1 h2 h3 h4 => h g cap w' ?_ h2 h3
  unfold OwnN
  rw [List.length_append, List.map_append]
  exact h1


theorem tassert (x : Int) (w : World) : (Instr.typeAssert (.iface 3 (.int .i64 x)) 20 3 true).run Try.prog w = .ok (.tuple #[.int .i64 x, .bool true]) w := by kernel_rfl
theorem len_any (a : Option Addr) (n c : Nat) (w : World) : Calls Try.prog 45 #[.slice a n c] w fun e w' => e = .returned (.int .i64 n) ∧ w = w' := by
  go_enter Try.func45, Try.ntmps45
  go_wp2_with fail
  go_ret
  exact ⟨rfl, rfl⟩
set_option maxRecDepth 100000 in
set_option maxHeartbeats 1000000 in
theorem rpush_any (base R x : Nat) (hv : Value) (hs : List Nat) (w : World) (hb : Blk w R #[hv] 89) (hown : OwnN base w hv hs) (hR : R < base) (hB : base ≤ w.heap.size) (hbig : hs.length ≤ 2 ^ 39) :
    Calls Try.prog 92 #[.pointer (some ⟨R, 0, none⟩), .iface 3 (.int .i64 x)] w fun e w' => e = .returned (.tuple #[]) ∧ ∃ g cap, Blk w' R #[.slice (some ⟨g, 0, none⟩) (hs.length + 1) cap] 89 ∧ OwnN base w' (.slice (some ⟨g, 0, none⟩) (hs.length + 1) cap) (hs ++ [x]) ∧
      Turns w w' (fun b => b = R ∨ hv.ownBlock = some b) ∧ (hv.ownBlock = some g ∨ w.heap.size ≤ g) := by
  obtain ⟨b0, b1⟩ := hb.one
  obtain ⟨ha, hc, rfl, _, _⟩ := id hown.form
  have hl1 : hs.length + 1 ≤ 2 ^ 40 := by omega
  have hbb : ∀ r, (Value.slice ha hs.length hc).ownBlock = some r → base ≤ r := fun r hr => (ownsRow_cells hown hr).1
  have HBB := Lib.hid hbb
  clear hbb
  have hta := tassert x
  go_enter Try.func92, Try.ntmps92
  go_wp2_with (at_builtin; refine wpList_append_R rfl (.tmp 16) (.tmp 18) rfl rfl rfl (hown.old ((Below.refl _ _).alloc (Nat.le_refl _) _) (Nat.le_refl _)) ((Blk.new w #[Z x] _).at rfl) hl1 (by simp; omega) ?_; intro g1 cap1 w3 hown3 hg3 hat3; have r1 := (hb.alloc (.cells #[Z x] 3)).kept hg3 (fun e => by have := HBB.out _ e.symm; omega); obtain ⟨c0, c1⟩ := r1.one)
  go_end0
  have hg1 : base ≤ g1 := by
    rcases hat3 with h | h
    · exact HBB.out _ h
    · rw [h, World.size_alloc]; omega
  refine ⟨rfl, g1, cap1, r1.set _, ?_, ?_, ?_⟩
  · exact hown3.kept (grownBy_setCell w3 R 0 _) (.inr (by simp [Value.ownBlock]; omega))
  · refine ((turns_grown (World.grownBy_alloc w (.cells #[Z x] 3) none)).mono (fun i _ h => by cases h)).trans (((turns_grown hg3).mono (fun i _ h => .inr h)).trans ((turns_grown (grownBy_setCell w3 R 0 (.slice (some ⟨g1, 0, none⟩) (hs.length + 1) cap1))).mono (fun i _ h => .inl (Option.some.inj h).symm)))
  · rcases hat3 with h | h
    · exact .inl h
    · exact .inr (by rw [h, World.size_alloc]; omega)

set_option maxRecDepth 100000 in
set_option maxHeartbeats 1000000 in
theorem hpush_any (base R x : Nat) (hv : Value) (hs : List Nat) (w : World) (hb : Blk w R #[hv] 89) (hown : OwnN base w hv hs) (hR : R < base) (hB : base ≤ w.heap.size) (hbig : hs.length ≤ 2 ^ 39) (hh : HeapF (fn hs) hs.length) :
    Calls Try.prog 44 #[.iface 91 (.pointer (some ⟨R, 0, none⟩)), .iface 3 (.int .i64 x)] w fun e w' => e = .returned (.tuple #[]) ∧ ∃ g cap, ∃ hs' : List Nat, hs'.Perm (hs ++ [x]) ∧ HeapF (fn hs') hs'.length ∧
      Blk w' R #[.slice (some ⟨g, 0, none⟩) (hs.length + 1) cap] 89 ∧ OwnN base w' (.slice (some ⟨g, 0, none⟩) (hs.length + 1) cap) hs' ∧ Turns w w' (fun b => b = R ∨ hv.ownBlock = some b) ∧ (hv.ownBlock = some g ∨ w.heap.size ≤ g) := by
  have hm : (method 248 91 (.pointer (some ⟨R, 0, none⟩)) "Push").run Try.prog w = .ok (92, .pointer (some ⟨R, 0, none⟩)) w := meth_ptr 247 R w "Push" _ mPush
  go_enter Try.func44, Try.ntmps44
  go_wp2_with fail
  refine (rpush_any base R x hv hs w hb hown hR hB hbig).mono ?_
  rintro e w2 ⟨rfl, g, cap, hb2, hown2, ht2, hat2⟩
  obtain ⟨c0, c1⟩ := hb2.one
  have hm2 : (method 248 91 (.pointer (some ⟨R, 0, none⟩)) "Len").run Try.prog w2 = .ok (45, .slice (some ⟨g, 0, none⟩) (hs.length + 1) cap) w2 := meth_field 247 R w2 _ "Len" _ c0 mLen
  clear hm
  go_wp2_with fail
  refine (len_any _ _ _ w2).mono ?_
  rintro e w' ⟨rfl, rfl⟩
  have hln : (hs ++ [x]).length = hs.length + 1 := by simp
  have hup := up_any base R (hs.length + 1) (hs ++ [x]) g cap hs.length w2 hln hb2 hown2 hR (by omega) (push_ok hh) (by omega)
  clear hm2
  go_wp2_with fail
  refine hup.mono ?_
  clear hup
  rintro e w3 ⟨rfl, hs', hp, hh', hown3, hg3⟩
  go_wp2_with fail
  go_end0
  have hgb : base ≤ g := (ownsRow_cells hown2 (r := g) rfl).1
  refine ⟨rfl, g, cap, hs', hp, by rw [hp.length_eq, hln]; exact hh', hb2.kept hg3 (by simp; omega), hown3, ?_, hat2⟩
  have h1 : Turns w w2 (fun b => b = R ∨ hv.ownBlock = some b ∨ w.heap.size ≤ b) := ht2.mono fun i _ h => h.elim .inl fun h => .inr (.inl h)
  have h2 : Turns w2 w3 (fun b => b = R ∨ hv.ownBlock = some b ∨ w.heap.size ≤ b) := (turns_grown hg3).mono fun i _ h => by
    cases h
    rcases hat2 with h | h
    · exact .inr (.inl h)
    · exact .inr (.inr h)
  exact (h1.trans h2).mono fun i hi h => by
    rcases h with h | h | h
    · exact .inl h
    · exact .inr h
    · omega

theorem OwnN.shorter {base g n m c : Nat} {w : World} {l : List Nat} (h : OwnN base w (.slice (some ⟨g, 0, none⟩) n c) l) (hm : m ≤ n) (hl : l.length = n) : OwnN base w (.slice (some ⟨g, 0, none⟩) m c) (l.take m) := by
  obtain ⟨_, hr⟩ := h
  rcases hr with ⟨hv, h0⟩ | ⟨g', cap, cur, hv, hb, hg, hn, hmx, hsz, ht⟩
  · cases hv
  · simp only [Value.slice.injEq, Option.some.injEq, Addr.mk.injEq, and_true] at hv
    obtain ⟨rfl, _, rfl⟩ := hv
    have hlm : (l.take m).length = m := by simp; omega
    unfold OwnN
    rw [hlm]
    refine ⟨by simp; omega, .inr ⟨g, c, cur, rfl, hb, hg, by omega, hmx, hsz, ?_⟩⟩
    have h2 := congrArg (List.take m) ht
    rw [List.take_take, Nat.min_eq_left (by omega)] at h2
    rw [Nat.mul_one, h2, List.map_take]
set_option maxRecDepth 100000 in
set_option maxHeartbeats 1000000 in
theorem rpop_any (base R g n c : Nat) (hs : List Nat) (w : World) (hn : hs.length = n + 1) (hb : Blk w R #[.slice (some ⟨g, 0, none⟩) (n + 1) c] 89) (hown : OwnN base w (.slice (some ⟨g, 0, none⟩) (n + 1) c) hs) (hR : R < base) (hbig : n ≤ 2 ^ 39) :
    Calls Try.prog 91 #[.pointer (some ⟨R, 0, none⟩)] w fun e w' => e = .returned (.iface 3 (.int .i64 (fn hs n))) ∧ Blk w' R #[.slice (some ⟨g, 0, none⟩) n c] 89 ∧ OwnN base w' (.slice (some ⟨g, 0, none⟩) n c) (hs.take n) ∧ Turns w w' (fun b => b = R) := by
  obtain ⟨b0, b1⟩ := hb.one
  obtain ⟨b, o, cap, he, hcap, hcm, _, hc⟩ := Nats.pos hown.nats (by omega)
  simp only [Value.slice.injEq, Option.some.injEq, Addr.mk.injEq, and_true] at he
  obtain ⟨⟨rfl, rfl⟩, hnl, rfl⟩ := he
  have c0 := hc n (by omega)
  rw [Nat.zero_add] at c0
  have c0 : w.cell? ⟨g, n, none⟩ = some (.int .i64 (fn hs n)) := c0
  have hgb : base ≤ g := (ownsRow_cells hown (r := g) rfl).1
  unfold maxLen at hcm
  have hcn : n + 1 ≤ c := by omega
  have HN := Lib.hid hn
  clear hc hnl hn
  go_enter Try.func91, Try.ntmps91
  go_wp2_with fail
  go_ret
  refine ⟨rfl, hb.set _, ?_, (turns_grown (grownBy_setCell w R 0 _)).mono fun i _ h => by cases h; rfl⟩
  exact (hown.shorter (by omega) HN.out).kept (grownBy_setCell w R 0 _) (.inr (by simp [Value.ownBlock]; omega))

set_option maxRecDepth 100000 in
set_option maxHeartbeats 1000000 in
theorem hpop_any (base R g n c : Nat) (hs : List Nat) (w : World) (hn : hs.length = n + 1) (hb : Blk w R #[.slice (some ⟨g, 0, none⟩) (n + 1) c] 89) (hown : OwnN base w (.slice (some ⟨g, 0, none⟩) (n + 1) c) hs) (hR : R < base) (hbig : n ≤ 2 ^ 39) (hh : HeapF (fn hs) (n + 1)) :
    Calls Try.prog 46 #[.iface 91 (.pointer (some ⟨R, 0, none⟩))] w fun e w' => e = .returned (.iface 3 (.int .i64 (fn hs 0))) ∧ ∃ hs' : List Nat, (fn hs 0 :: hs').Perm hs ∧ hs'.length = n ∧ HeapF (fn hs') n ∧ Blk w' R #[.slice (some ⟨g, 0, none⟩) n c] 89 ∧ OwnN base w' (.slice (some ⟨g, 0, none⟩) n c) hs' ∧ Turns w w' (fun b => b = R ∨ b = g) := by
  obtain ⟨b0, b1⟩ := hb.one
  have hgb : base ≤ g := (ownsRow_cells hown (r := g) rfl).1
  have hm : (method 248 91 (.pointer (some ⟨R, 0, none⟩)) "Len").run Try.prog w = .ok (45, .slice (some ⟨g, 0, none⟩) (n + 1) c) w := meth_field 247 R w _ "Len" _ b0 mLen
  have hsub : ((n + 1 : Nat) : Int) - 1 = (n : Int) := by omega
  have HS := Lib.hid hsub
  have hswp := swap_any base g (n + 1) c hs 0 n w hn hown (by omega) (by omega) (by omega)
  have hms : (method 248 91 (.pointer (some ⟨R, 0, none⟩)) "Swap").run Try.prog w = .ok (90, .slice (some ⟨g, 0, none⟩) (n + 1) c) w := meth_field 247 R w _ "Swap" _ b0 mSwap
  clear hsub
  go_enter Try.func46, Try.ntmps46
  go_wp2_with fail
  refine (len_any _ _ _ w).mono ?_
  rintro e w' ⟨rfl, rfl⟩
  go_wp2_with fail
  rw [show ((0 : Nat) : Int) = 0 from rfl] at hswp
  refine hswp.mono ?_
  clear hswp hm hms
  rintro e w2 ⟨rfl, hown2, hg2⟩
  have hb2 := hb.kept hg2 (by simp; omega)
  have hl2 : (swp hs 0 n).length = n + 1 := by rw [swp_length, hn]
  have hdn := down_any base R (n + 1) n (swp hs 0 n) g c w2 hl2 (by omega) hb2 hown2 hR (pop_ok hn hh) (by omega)
  go_wp2_with fail
  refine hdn.mono ?_
  clear hdn
  rintro e w3 ⟨bb, rfl, hs3, hp3, hh3, hrest, hown3, hg3⟩
  have hb3 := hb2.kept hg3 (by simp; omega)
  have hl3 : hs3.length = n + 1 := by rw [hp3.length_eq, hl2]
  have hpop := rpop_any base R g n c hs3 w3 hl3 hb3 hown3 hR hbig
  have hm3 : (method 248 91 (.pointer (some ⟨R, 0, none⟩)) "Pop").run Try.prog w3 = .ok (91, .pointer (some ⟨R, 0, none⟩)) w3 := meth_ptr 247 R w3 "Pop" _ mPop
  have hlast : fn hs3 n = fn hs 0 := by
    rw [hrest n (Nat.le_refl _), fn_swp hs 0 n (by omega) (by omega)]
    unfold swapF; rw [if_pos rfl]
  have HL := Lib.hid hlast
  clear hlast
  go_wp2_with fail
  refine hpop.mono ?_
  clear hpop hm3
  rintro e w4 ⟨rfl, hb4, hown4, ht4⟩
  rw [HL.out]
  go_wp2_with fail
  go_ret
  refine ⟨rfl, hs3.take n, ?_, by simp; omega, ?_, hb4, hown4, ?_⟩
  · have h1 : hs3 = hs3.take n ++ [fn hs3 n] := by
      have h2 := List.take_succ_eq_append_getElem (l := hs3) (i := n) (by omega)
      rw [List.take_of_length_le (by omega)] at h2
      have h3 : fn hs3 n = hs3[n] := by simp [fn, hl3]
      rw [h3]; exact h2
    have h4 : hs3.Perm hs := hp3.trans (swp_perm hs 0 n (by omega) (by omega))
    rw [HL.out] at h1
    exact ((List.perm_append_comm (l₁ := [fn hs 0]) (l₂ := hs3.take n)).trans (h1 ▸ List.Perm.refl _)).trans h4
  · refine heapF_congr hh3 fun k hk => ?_
    simp [fn, hk]
  · have t1 : Turns w w2 (fun b => b = R ∨ b = g) := (turns_grown hg2).mono fun i _ h => .inr (Option.some.inj h).symm
    have t2 : Turns w2 w3 (fun b => b = R ∨ b = g) := (turns_grown hg3).mono fun i _ h => .inr (Option.some.inj h).symm
    exact (t1.trans t2).trans (ht4.mono fun i _ h => .inl h)
end Go.Proofs.Ythbnbjigmgoldaa
