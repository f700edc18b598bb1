/- A range over a function whose iterator keeps state of its own in memory: the statement's law, in the wide fence. No conditions of the program. -/
import Derived.Test.YthooiobhlbnaoaaGreatOMem
import Derived.RangeFuncNested
import Derived.RangeFuncBound
import Derived.RangeFuncCalls
import Derived.RangeFuncLeaves
import Derived.Shelf.RegionOpen
import Derived.OwnWalkIn
import Derived.TacticsInMore
import Derived.LoopNIn
import Derived.LoopIn
import Derived.OrdersHeld
namespace Go.Proofs.YthooiobhlbnaoaaGreat
open Go.RowKit
set_option linter.unusedVariables false

/-- An iterator's contract: called with any loop's yield in a world that 'Pre' takes, it hands elements to the rounds, one by one; its own steps between two rounds are 'St'; what a round keeps for it is 'Kp'; of an element the round may use 'Xp'. -/
def IterSt {α : Type} (P : Program) (gf : Nat) (mk : Nat → Array Value) (encs : α → Array Value) (Xp : List α → α → World → Prop) (St Kp : World → World → Prop) (S Sp : List α → World → Prop) (Pre : World → Prop) : Prop :=
  ∀ (n l : Nat) (J Jx : List α → World → Prop) (W : World), Pre W → (∀ s A B, J s A → St A B → J s B) → (∀ s A B, Jx s A → St A B → Jx s B) →
    (∀ pre x W1, J pre W1 → Xp pre x W1 → YieldAt Fence.wide (n - 1) P l (encs x) W1 fun e W' =>
      (e = .returned (.bool true) ∧ J (pre ++ [x]) W' ∧ Kp W1 W') ∨ (e = .returned (.bool false) ∧ Jx (pre ++ [x]) W' ∧ Kp W1 W')) →
    J [] W →
    CallsIn Fence.wide n P gf (mk l) W fun e W' => (∃ v, e = .returned v) ∧ ((∃ xs, S xs W' ∧ J xs W') ∨ (∃ pre, Sp pre W' ∧ Jx pre W'))

/-- How a round's body may be left. -/
def roundLeft {α : Type} (B : Nat) (Kp : World → World → Prop) (I : List α → World → Prop) (Ix : Code → List α → World → Prop) (xs : List α) (W : World) : Exit → Act → World → Prop
  | .normal, _, W' => KeepsFrom B W W' ∧ Kp W W' ∧ I xs W'
  | .ret, _, W' => KeepsFrom B W W' ∧ Kp W W' ∧ Ix .ret xs W'
  | .exit id, _, W' => KeepsFrom B W W' ∧ Kp W W' ∧ Ix (.exit id) xs W'
  | .goto t, _, W' => KeepsFrom B W W' ∧ Kp W W' ∧ Ix (.goto t) xs W'
  | .panic _, _, _ => False
  | .outgrown, _, _ => False

/-- What the book-keeping of the statement may turn, a relation minds not. -/
def Minds (B : Nat) (K : World → Prop) : Prop := ∀ (W : World) (l : Nat) (o o' : Obj), K W → B ≤ l → W.heap[l]? = some o → o.isCells = false → K (W.putObj l o')

theorem wide_depth {n : Nat} (h : Fence.wide.depth.isSome = true) : 1 ≤ n := by simp [Fence.wide] at h

theorem range_law {P : Program} {α : Type} {g : Operand} {ps : Array Tmp} {assign body : Code} {Q : Exit → Act → World → Prop} {a : Act} {w : World} {n gf : Nat} {fi lb : Array Value}
    (hg : a.eval g = .func (.func gf) fi lb) (eg : ∀ args w, (callFunc gf args).run P w = .ok (.enter gf args) w)
    {encs : α → Array Value} {Xp : List α → α → World → Prop} {St Kp : World → World → Prop} {S Sp : List α → World → Prop} {Pre : World → Prop}
    (hseq : IterSt P gf (fun l => fi ++ #[.func (.yield l) #[] #[]] ++ lb) encs Xp St Kp S Sp Pre)
    (hps : ∀ x, (encs x).size = ps.size)
    (I : List α → World → Prop) (Ix : Code → List α → World → Prop) (A1 : List α → α → Act → World → Prop)
    (hSt : ∀ A B, w.heap.size ≤ A.heap.size → St A B → KeepsFrom w.heap.size A B)
    (hI : ∀ s, Minds w.heap.size (I s)) (hIx : ∀ c s, Minds w.heap.size (Ix c s)) (hA : ∀ s x a1, Minds w.heap.size (A1 s x a1))
    (hS : ∀ s, Minds w.heap.size (S s)) (hSp : ∀ s, Minds w.heap.size (Sp s))
    (hISt : ∀ s A B, I s A → St A B → I s B) (hIxSt : ∀ c s A B, Ix c s A → St A B → Ix c s B)
    (hKt : ∀ A B C, Kp A B → Kp B C → Kp A C) (hKb : ∀ (W : World) (l : Nat) (o o' : Obj), w.heap.size ≤ l → W.heap[l]? = some o → o.isCells = false → Kp W (W.putObj l o'))
    (h0 : ∀ o o', I [] ((w.alloc o).alloc o')) (hPre : ∀ o o', Pre ((w.alloc o).alloc o'))
    (hassign : ∀ (l : Nat) (pre : List α) (x : α) (W : World), I pre W → Xp pre x W → w.heap.size + 1 < W.heap.size →
      assign.wpIn (Fence.wide.inRound l) (n - 1 - 1) P (Exit.then (fun a1 W1 => KeepsFrom w.heap.size W W1 ∧ Kp W W1 ∧ A1 pre x a1 W1) (fun _ _ _ => False)) { tmps := (ps.zip (encs x)).foldl (fun t (p, v) => t.setIfInBounds p v) a.tmps, defers := [] } W)
    (hbody : ∀ (l : Nat) (pre : List α) (x : α) (a1 : Act) (W : World), A1 pre x a1 W → body.wpIn (Fence.wide.inRound l) (n - 1 - 1) P (roundLeft w.heap.size Kp I Ix (pre ++ [x]) W) a1 W)
    (hdone : ∀ (D : Nat) (xs : List α) (W : World), w.heap.size ≤ D → S xs W → I xs W → W.heap[D]? = some (.deferred (some [])) → Q .normal { a with defers := { target := .collected D, args := #[] } :: a.defers } W)
    (hstop : ∀ (D : Nat) (c : Code) (pre : List α) (W : World), w.heap.size ≤ D → Sp pre W → Ix c pre W → W.heap[D]? = some (.deferred (some [])) → c.wpIn Fence.wide n P Q { a with defers := { target := .collected D, args := #[] } :: a.defers } W) :
    (Code.rangeFunc g ps assign body).wpIn Fence.wide n P Q a w := by
  refine wpIn_rangeFunc fun fn _ => ?_
  obtain ⟨B, hB⟩ : ∃ B, w.heap.size = B := ⟨_, rfl⟩
  obtain ⟨rc, hrc⟩ : ∃ rc : LoopState → Option Code → Loop, rc = fun st pe => { state := st, pending := pe, fn, tmps := a.tmps, params := ps, assign, body, defers := B } := ⟨_, rfl⟩
  -- the two blocks of book-keeping, as they lie between two rounds
  let bk (st : LoopState) (pe : Option Code) (W : World) : Prop := W.heap[B + 1]? = some (.loop (rc st pe)) ∧ W.heap[B]? = some (.deferred (some []))
  have hkeep : ∀ {st pe} {A C : World}, KeepsFrom B A C → bk st pe A → bk st pe C := fun hk hb => ⟨hk.same _ _ (by omega) hb.1 rfl, hk.same _ _ (Nat.le_refl _) hb.2 rfl⟩
  have hput : ∀ {st pe} {st' pe'} {A : World}, bk st pe A → bk st' pe' (A.putObj (B + 1) (.loop (rc st' pe'))) := fun hb =>
    ⟨World.putObj_heap_same (Array.getElem?_eq_some_iff.1 hb.1).1, (World.putObj_heap_other (by omega)).trans hb.2⟩
  obtain ⟨W1, hW1⟩ : ∃ W1, (w.alloc (.deferred (some []))).alloc (.loop (rc .ready none)) = W1 := ⟨_, rfl⟩
  have hbk1 : bk .ready none W1 := by
    subst hB hW1
    constructor
    · have := World.alloc_heap_new (w.alloc (.deferred (some []))) (.loop (rc .ready none)); rwa [World.size_alloc] at this
    · exact (Below.heap_alloc _ _ _ (by simp)).trans (World.alloc_heap_new w _)
  have hres : (resolve a.eval (rangeCall g (B + 1)) 0).run P W1 = .ok { target := .fn (.func gf) lb, args := fi ++ #[.func (.yield (B + 1)) #[] #[]] } W1 := by
    simp only [resolve, hg]
    simp [go_sem]
  have hinv : (invoke (.fn (.func gf) lb) (fi ++ #[.func (.yield (B + 1)) #[] #[]])).run P W1 = .ok (.enter gf (fi ++ #[.func (.yield (B + 1)) #[] #[]] ++ lb)) W1 := by
    simp [invoke, go_sem, eg]
  refine ⟨B + 1, [{ target := .collected B, args := #[] }], W1, _, W1, gf, _, W1, ?_, hres, fun _ _ => trivial, hinv, wide_depth, ?_⟩
  · rw [← hW1, hrc, ← hB]; exact run_enterLoop_outer _ _ _ _ _
  refine (hseq (n - 1) (B + 1) (fun pre W => I pre W ∧ bk .ready none W) (fun pre W => ∃ c, Ix c pre W ∧ bk .done (some c) W) W1 (hW1 ▸ hPre _ _) ?_ ?_ ?_ ⟨hW1 ▸ h0 _ _, hbk1⟩).mono ?_
  · rintro s A C ⟨hi, hb⟩ hst
    have hsz : w.heap.size ≤ A.heap.size := by have := (Array.getElem?_eq_some_iff.1 hb.2).1; omega
    exact ⟨hISt s A C hi hst, hkeep (hB ▸ hSt A C hsz hst) hb⟩
  · rintro s A C ⟨c, hi, hb⟩ hst
    have hsz : w.heap.size ≤ A.heap.size := by have := (Array.getElem?_eq_some_iff.1 hb.2).1; omega
    exact ⟨c, hIxSt c s A C hi hst, hkeep (hB ▸ hSt A C hsz hst) hb⟩
  · -- one round
    rintro pre x W ⟨hi, hb⟩ hx
    have hlt : w.heap.size + 1 < W.heap.size := by have := (Array.getElem?_eq_some_iff.1 hb.1).1; omega
    have hy := run_yield (P := P) (args := encs x) hb.1 (by rw [hrc]; exact hps x)
    refine ⟨_, _, _, _, hy, roundIn_of_wpIn trivial ?_⟩
    have hasg := hassign (B + 1) pre x W hi hx hlt
    rw [show (rc .ready none).tmps = a.tmps by rw [hrc], show (rc .ready none).params = ps by rw [hrc], show (rc .ready none).assign = assign by rw [hrc], show (rc .ready none).body = body by rw [hrc]]
    refine wpIn_mono hasg ?_
    rintro e a1 W2 hp
    cases e with
    | normal =>
      obtain ⟨hk2, hkp2, ha1⟩ := hp
      rw [hB] at hk2
      have hb2 := hkeep hk2 hb
      refine ⟨_, run_beginRound hb2.1 (by rw [hrc]), ?_⟩
      have hbusy : ({ rc .ready none with state := .busy } : Loop) = rc .busy none := by rw [hrc]
      rw [hbusy]
      have hb3 : bk .busy none (W2.putObj (B + 1) (.loop (rc .busy none))) := hput hb2
      have hkp3 : Kp W (W2.putObj (B + 1) (.loop (rc .busy none))) := hKt _ _ _ hkp2 (hKb _ _ _ _ (by omega) hb2.1 rfl)
      refine wpIn_mono (hbody (B + 1) pre x a1 _ (hA _ _ _ _ _ _ _ ha1 (by omega) hb2.1 rfl)) ?_
      rintro e a3 W3 hp
      have fin : ∀ (jump : Option Code), KeepsFrom w.heap.size (W2.putObj (B + 1) (.loop (rc .busy none))) W3 → Kp (W2.putObj (B + 1) (.loop (rc .busy none))) W3 →
          (Instr.endRound (B + 1) jump).run P W3 = .ok (.bool jump.isNone) (W3.putObj (B + 1) (.loop (rc (if jump.isNone then .ready else .done) jump))) ∧
          bk .busy none W3 ∧ bk (if jump.isNone then .ready else .done) jump (W3.putObj (B + 1) (.loop (rc (if jump.isNone then .ready else .done) jump))) ∧ Kp W (W3.putObj (B + 1) (.loop (rc (if jump.isNone then .ready else .done) jump))) := fun jump hk3 hkp => by
        rw [hB] at hk3
        have hb4 := hkeep hk3 hb3
        have hr := run_endRound (P := P) jump hb4.1
        have he : ({ rc .busy none with state := if jump.isNone then .ready else .done, pending := jump } : Loop) = rc (if jump.isNone then .ready else .done) jump := by rw [hrc]
        rw [he] at hr
        exact ⟨hr, hb4, hput hb4, hKt _ _ _ (hKt _ _ _ hkp3 hkp) (hKb _ _ _ _ (by omega) hb4.1 rfl)⟩
      cases e with
      | normal =>
        obtain ⟨hk3, hkp, hi3⟩ := hp
        obtain ⟨hr, hb4, hb5, hkp5⟩ := fin none hk3 hkp
        exact ⟨_, _, hr, .inl ⟨rfl, ⟨hI _ _ _ _ _ hi3 (by omega) hb4.1 rfl, hb5⟩, hkp5⟩⟩
      | ret =>
        obtain ⟨hk3, hkp, hi3⟩ := hp
        obtain ⟨hr, hb4, hb5, hkp5⟩ := fin (some .ret) hk3 hkp
        exact ⟨_, _, hr, .inr ⟨rfl, ⟨.ret, hIx _ _ _ _ _ _ hi3 (by omega) hb4.1 rfl, hb5⟩, hkp5⟩⟩
      | exit id =>
        obtain ⟨hk3, hkp, hi3⟩ := hp
        obtain ⟨hr, hb4, hb5, hkp5⟩ := fin (some (.exit id)) hk3 hkp
        exact ⟨_, _, hr, .inr ⟨rfl, ⟨.exit id, hIx _ _ _ _ _ _ hi3 (by omega) hb4.1 rfl, hb5⟩, hkp5⟩⟩
      | goto t =>
        obtain ⟨hk3, hkp, hi3⟩ := hp
        obtain ⟨hr, hb4, hb5, hkp5⟩ := fin (some (.goto t)) hk3 hkp
        exact ⟨_, _, hr, .inr ⟨rfl, ⟨.goto t, hIx _ _ _ _ _ _ hi3 (by omega) hb4.1 rfl, hb5⟩, hkp5⟩⟩
      | panic ch => exact hp.elim
      | outgrown => exact hp.elim
    | exit id => exact hp.elim
    | ret => exact hp.elim
    | goto t => exact hp.elim
    | panic ch => exact hp.elim
    | outgrown => exact hp.elim
  · -- behind the iterator
    have hbusy : ∀ st, st ≠ LoopState.busy → ∀ pe, (rc st pe).state ≠ .busy := fun st h pe => by rw [hrc]; exact h
    have hpe : ∀ st pe, (rc st pe).pending = pe := fun st pe => by rw [hrc]
    rintro e W2 ⟨⟨v, rfl⟩, (⟨xs, hs, hi, hb⟩ | ⟨pre, hs, c, hi, hb⟩)⟩
    · have hr := run_endLoop (P := P) hb.1 (hbusy _ (by simp) _)
      rw [hpe] at hr
      exact ⟨none, _, hr, hdone B xs _ (by omega) (hS _ _ _ _ _ hs (by omega) hb.1 rfl) (hI _ _ _ _ _ hi (by omega) hb.1 rfl) ((World.putObj_heap_other (by omega)).trans hb.2)⟩
    · have hr := run_endLoop (P := P) hb.1 (hbusy _ (by simp) _)
      rw [hpe] at hr
      exact ⟨some c, _, hr, hstop B c pre _ (by omega) (hSp _ _ _ _ _ hs (by omega) hb.1 rfl) (hIx _ _ _ _ _ _ hi (by omega) hb.1 rfl) ((World.putObj_heap_other (by omega)).trans hb.2)⟩
/-! ### A region that draws its order, within a round: by the laws of a plain frame -/
section
variable {P : Program} {ops : Array Oper} {Q : Exit → Act → World → Prop} {md : Region.Mode}

theorem rows_wide {row : String} {args : Array Value} {w : World} {R : Value → World → Prop} {n : Nat} (h : Rows P row args w R) : RowsIn Fence.wide n P row args w R := by
  exact fun c cs _ => let ⟨v, w', r, s⟩ := h c cs; ⟨v, w', r, stepsIn_wide.2 s⟩

theorem wpIn_round_of_wp {l n : Nat} {o : Oper} {a : Act} {w : World} {K : Act → World → Prop} (hd : ∀ c, o.op ≠ .defer c) (h : o.wp P a w K Q) : o.wpIn (Fence.wide.inRound l) n P a w K Q := by
  refine ⟨fun _ _ => trivial, ?_⟩
  rw [show (Fence.wide.inRound l).round = some l from rfl, Oper.semAt_some l _ _ hd]
  unfold Oper.wp at h
  generalize (execOp a.eval o).run P w = r at h
  cases r with
  | ok x w' =>
    cases x <;> simp only [Oper.upon, Oper.uponIn] at h ⊢ <;> try exact h
    case enter f args =>
      exact ⟨wide_depth, (CallsIn.inRound l (callsIn_wide.2 h)).mono fun e w'' he => by cases e <;> exact he⟩
    case row row args => exact ⟨wide_depth, rows_wide h⟩
  | halt x w' => cases x <;> simp only [Oper.upon, Oper.uponIn] at h ⊢ <;> exact h

/-- No operation defers. -/
def noDefer (ops : Array Oper) : Bool := ops.toList.all fun o => match o.op with | .defer _ => false | _ => true
theorem noDefer_spec {i : Nat} {o : Oper} (h : noDefer ops = true) (hi : ops[i]? = some o) : ∀ c, o.op ≠ .defer c := by
  intro c hc
  unfold noDefer at h
  rw [List.all_eq_true] at h
  have := h o (Array.mem_toList_iff.2 (Array.mem_of_getElem? hi))
  simp [hc] at this

theorem wpOpIn_of_wpOp {l n i : Nat} {a : Act} {w : World} {K : Act → World → Prop} (hd : noDefer ops = true) (hQ : ¬ LetsOut Q) (h : wpOp P ops Q i K a w) : wpOpIn (Fence.wide.inRound l) n P ops Q i K a w := by
  unfold wpOp at h
  unfold wpOpIn
  cases ho : ops[i]? with
  | none => simpa [ho] using h
  | some o =>
    simp only [ho] at h ⊢
    split
    · rename_i hw
      rw [if_pos hw] at h
      exact wpIn_round_of_wp (noDefer_spec hd ho) (h.resolve_right fun h' => hQ h'.2)
    · rename_i hw
      rw [if_neg hw] at h
      exact ⟨fun _ _ => trivial, h⟩

theorem wpAnyIn_of_wpAny {l n : Nat} (hd : noDefer ops = true) (hQ : ¬ LetsOut Q) : ∀ (fuel : Nat) (listed : Array Bool) (a : Act) (w : World), wpAny P md ops Q fuel listed a w → wpAnyIn (Fence.wide.inRound l) n P md ops Q fuel listed a w
  | 0, _, _, _, h => h
  | fuel + 1, _, _, _, h => ⟨h.1, fun i hi => wpOpIn_mono (fun a' w' h' => wpAnyIn_of_wpAny hd hQ fuel _ a' w' h') (wpOpIn_of_wpOp hd hQ (h.2 i hi))⟩

theorem wpOp_of {i : Nat} {o : Oper} {a : Act} {w : World} {K : Act → World → Prop} (ho : ops[i]? = some o) (hw : Region.wanted o (yielded ops a.tmps) = true) (h : o.wp P a w K Q) : wpOp P ops Q i K a w := by
  unfold wpOp; simp only [ho, hw, if_true]; exact .inl h

/-! #### Operations that are taken first: what they read is kept until they have come up -/
/-- Whatever order is picked from here on; behind an operation that is not marked 'S' holds. (The marks: operations that wait for those that are taken first.) -/
def wpAnyD (P : Program) (md : Region.Mode) (ops : Array Oper) (Q : Exit → Act → World → Prop) (S : World → Prop) (D : List Nat) : Nat → Array Bool → Act → World → Prop
  | 0, listed, a, w => Region.ready md ops listed = [] ∧ Q .normal a w
  | fuel + 1, listed, a, w =>
    (Region.ready md ops listed = [] → Q .normal a w) ∧
    ∀ i ∈ Region.ready md ops listed, wpOp P ops Q i (fun a' w' => (i ∉ D → S w') ∧ wpAnyD P md ops Q S D fuel (listed.setIfInBounds i true) a' w') a w

variable {S : World → Prop} {D : List Nat}

theorem wpAny_of_D : ∀ (fuel : Nat) (listed : Array Bool) (a : Act) (w : World), wpAnyD P md ops Q S D fuel listed a w → wpAny P md ops Q fuel listed a w
  | 0, _, _, _, h => h
  | fuel + 1, _, _, _, h => ⟨h.1, fun i hi => wpOp_mono (fun a' w' h' => wpAny_of_D fuel _ a' w' h'.2) (h.2 i hi)⟩

theorem wpAnyD_first {i : Nat} {oi : Oper} {v : Value} (hi : ops[i]? = some oi) (hsel : ∀ (j : Nat) (o : Oper) cs b, ops[j]? = some o → o.op ≠ .select cs b)
    (hQ : ∀ c a w, Q (.panic c) (a.put oi.dst v) w → Q (.panic c) a w)
    (hD : ∀ j oj, ops[j]? = some oj → j ∈ D → ∃ e ∈ oj.after, Region.binds md e = true ∧ (e.on = i ∨ e.on ∈ D)) :
    ∀ (fuel : Nat) (listed : Array Bool) (a : Act) (w : World),
      (∀ j oj, ops[j]? = some oj → j ≠ i → listed.getD j true = false → (∀ e ∈ oj.after, Region.binds md e = true → e.on ≠ i) → oi.apart ops oj = true) →
      (∀ j ∈ D, listed.getD j false = false) →
      i ∈ Region.ready md ops listed → YieldsIf P ops S oi v a → S w →
      wpAnyD P md ops Q S D fuel (listed.setIfInBounds i true) (a.put oi.dst v) w → wpAnyD P md ops Q S D (fuel + 1) listed a w := by
  intro fuel
  induction fuel with
  | zero =>
    intro listed a w _ _ hr hy hS H
    refine ⟨fun h => (by rw [h] at hr; cases hr), fun j hj => ?_⟩
    by_cases hji : j = i
    · subst hji; exact hy.wpOp hi hS ⟨fun _ => hS, H⟩
    · have := ready_mono hj hji
      rw [H.1] at this
      cases this
  | succ fuel ih =>
    intro listed a w hfree hinv hr hy hS H
    refine ⟨fun h => (by rw [h] at hr; cases hr), fun j hj => ?_⟩
    by_cases hji : j = i
    · subst hji; exact hy.wpOp hi hS ⟨fun _ => hS, H⟩
    · have h1 := H.2 j (ready_mono hj hji)
      obtain ⟨hjun, oj, hoj, hall⟩ := mem_ready.1 hj
      have hlisted : ∀ k, listed.getD k false = true → listed.getD k true = true := fun k hk => by
        rcases Nat.lt_or_ge k listed.size with h' | h'
        · simpa [h'] using hk
        · simp [Array.getElem?_eq_none h']
      have hnot : ∀ e ∈ oj.after, Region.binds md e = true → e.on ≠ i := fun e he hb heq => by
        have h1 := hall e he hb
        have h0 := (mem_ready.1 hr).1
        rw [heq] at h1
        have := hlisted _ h1
        rw [h0] at this; cases this
      have hjD : j ∉ D := fun hjD => by
        obtain ⟨e, he, hb, h⟩ := hD j oj hoj hjD
        rcases h with h | h
        · exact hnot e he hb h
        · have h1 := hall e he hb
          rw [hinv _ h] at h1; cases h1
      have h2 := wpOp_putIf hoj (hfree j oj hoj hji hjun hnot) (fun cs b => hsel i oi cs b hi) (fun cs b => hsel j oj cs b hoj) hQ hy h1
      have hfree' : ∀ k ok, ops[k]? = some ok → k ≠ i → (listed.setIfInBounds j true).getD k true = false →
          (∀ e ∈ ok.after, Region.binds md e = true → e.on ≠ i) → oi.apart ops ok = true := fun k ok hk hki hun hno => by
        refine hfree k ok hk hki ?_ hno
        by_cases hjk : j = k
        · subst hjk; exact hjun
        · rw [getD_set_ne true hjk] at hun; exact hun
      have hinv' : ∀ k ∈ D, (listed.setIfInBounds j true).getD k false = false := fun k hk => by
        have hne : j ≠ k := fun e => hjD (e ▸ hk)
        have := hinv k hk
        rw [Array.getD_eq_getD_getElem?] at this ⊢
        rw [Array.getElem?_setIfInBounds_ne hne]
        exact this
      refine wpOp_mono (fun a' w' h3 => ⟨fun _ => h3.2.1 hjD, ih (listed.setIfInBounds j true) a' w' hfree' hinv' (ready_mono hr (Ne.symm hji)) h3.1 (h3.2.1 hjD) ?_⟩) h2
      rw [Array.setIfInBounds_comm _ _ hji]
      exact h3.2.2

/-- The marks wait for i, directly or through other marks. -/
def marksWait (md : Region.Mode) (ops : Array Oper) (D : List Nat) (i : Nat) : Bool :=
  D.all fun j => match ops[j]? with
    | none => true
    | some o => o.after.any fun e => Region.binds md e && (e.on == i || D.contains e.on)
def marksOpen (D : List Nat) (listed : Array Bool) : Bool := D.all fun j => !listed.getD j false

/-- Take number 'i' first. -/
theorem wpAnyD_take {i : Nat} {oi : Oper} {v : Value} {fuel : Nat} {listed : Array Bool} {a : Act} {w : World} (hi : ops[i]? = some oi)
    (hs : Region.noSelect ops = true) (hf : Region.free md ops listed i = true) (hr : (Region.ready md ops listed).contains i = true) (hm : marksWait md ops D i = true) (ho : marksOpen D listed = true)
    (hQ : ∀ c a w, Q (.panic c) (a.put oi.dst v) w → Q (.panic c) a w) (hy : YieldsIf P ops S oi v a) (hS : S w)
    (h : wpAnyD P md ops Q S D fuel (listed.setIfInBounds i true) (a.put oi.dst v) w) : wpAnyD P md ops Q S D (fuel + 1) listed a w := by
  refine wpAnyD_first hi (Region.noSelect_spec hs) hQ ?_ fuel listed a w (Region.free_spec hi hf) ?_ (by simpa using hr) hy hS h
  · intro j oj hoj hjD
    unfold marksWait at hm
    rw [List.all_eq_true] at hm
    have := hm j hjD
    simp only [hoj, Array.any_eq_true'] at this
    obtain ⟨e, he, hb⟩ := this
    simp only [Bool.and_eq_true, Bool.or_eq_true, beq_iff_eq, List.contains_iff_mem] at hb
    exact ⟨e, he, hb.1, hb.2⟩
  · intro j hj
    unfold marksOpen at ho
    rw [List.all_eq_true] at ho
    simpa using ho j hj

/-- Only one operation may come up. -/
theorem wpAnyD_one {i : Nat} {o : Oper} {fuel : Nat} {listed : Array Bool} {a : Act} {w : World} (hr : Region.ready md ops listed = [i]) (ho : ops[i]? = some o) (hw : Region.wanted o (yielded ops a.tmps) = true)
    (h : o.wp P a w (fun a' w' => (i ∉ D → S w') ∧ wpAnyD P md ops Q S D fuel (listed.setIfInBounds i true) a' w') Q) : wpAnyD P md ops Q S D (fuel + 1) listed a w :=
  ⟨fun h0 => by rw [hr] at h0; simp at h0, fun j hj => by
    rw [hr] at hj
    obtain rfl : j = i := by simpa using hj
    exact wpOp_of ho hw h⟩

theorem wpAnyD_done {listed : Array Bool} {a : Act} {w : World} (hr : Region.ready md ops listed = []) (h : Q .normal a w) : ∀ fuel, wpAnyD P md ops Q S D fuel listed a w
  | 0 => ⟨hr, h⟩
  | _ + 1 => ⟨fun _ => h, by rw [hr]; simp⟩

/-- **A drawn region within a round.** -/
theorem region_round {l n id : Nat} {a : Act} {w : World} (S : World → Prop) (D : List Nat) (hm : P.follows .mixedOrders = true) (hd : noDefer ops = true) (hQ : ¬ LetsOut Q)
    (h : wpAnyD P .any ops Q S D ops.size (Array.replicate ops.size false) a w.drew) : (Code.region id ops true).wpIn (Fence.wide.inRound l) n P Q a w :=
  wpIn_region_any hm (wpAnyIn_of_wpAny hd hQ _ _ _ _ (wpAny_of_D _ _ _ _ h))
/-- **A drawn region of a plain frame.** -/
theorem region_plain {id : Nat} {a : Act} {w : World} (S : World → Prop) (D : List Nat) (hm : P.follows .mixedOrders = true)
    (h : wpAnyD P .any ops Q S D ops.size (Array.replicate ops.size false) a w.drew) : (Code.region id ops true).wp P Q a w :=
  wp_region_any hm (wpAny_of_D _ _ _ _ h)

end
end Go.Proofs.YthooiobhlbnaoaaGreat
