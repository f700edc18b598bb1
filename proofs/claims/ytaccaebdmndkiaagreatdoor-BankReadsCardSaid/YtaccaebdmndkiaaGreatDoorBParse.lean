/- Package bank: parse. No conditions beyond the callees' contracts, which are stated. -/
import Derived.Test.YtaccaebdmndkiaaGreatDoorBLines
namespace Go.Proofs.YtaccaebdmndkiaaGreatDoor
open Go.RowKit
set_option linter.unusedVariables false
attribute [local go_sem] Oper.semAt_some

/-- What the caller's cells may see of parse: blocks below PB, and rows of T, stay. -/
def Sx (PB T : Nat) (A B : World) : Prop := A.heap.size ≤ B.heap.size ∧ ∀ b o, A.heap[b]? = some o → (b < PB ∨ ∃ cs f, o = .cells cs T f) → B.heap[b]? = some o
/-- What parse may see of the callees: blocks from PB on stay, but for rows of T. -/
def Kx (PB T : Nat) (W W' : World) : Prop := W.heap.size ≤ W'.heap.size ∧ ∀ b o, PB ≤ b → W.heap[b]? = some o → (∀ cs f, o ≠ .cells cs T f) → W'.heap[b]? = some o
theorem Sx.refl (PB T : Nat) (A : World) : Sx PB T A A := ⟨Nat.le_refl _, fun _ _ h _ => h⟩
theorem Sx.trans {PB T : Nat} {A B C : World} (h : Sx PB T A B) (k : Sx PB T B C) : Sx PB T A C := ⟨Nat.le_trans h.1 k.1, fun b o ho hc => k.2 b o (h.2 b o ho hc) hc⟩
theorem Sx.below {PB T B : Nat} {A C : World} (h : Below B A C) (hB : A.heap.size ≤ B) : Sx PB T A C :=
  ⟨h.size, fun b o ho _ => (h.block b (Nat.lt_of_lt_of_le (Array.getElem?_eq_some_iff.1 ho).1 hB)).trans ho⟩
theorem Sx.put {PB T l : Nat} {A : World} {o : Obj} (hl : PB ≤ l) (ho : A.heap[l]? = some o) (hc : o.isCells = false) (o' : Obj) : Sx PB T A (A.putObj l o') := by
  refine ⟨by simp [World.putObj], fun b x hx h => ?_⟩
  by_cases hb : b = l
  · subst hb
    rcases h with h | ⟨cs, f, rfl⟩
    · omega
    · rw [ho] at hx; cases hx; cases hc
  · exact (World.putObj_heap_other hb).trans hx
theorem Sx.grown {PB T l t : Nat} {A C : World} {sv : Value} (hg : A.grownBy C (some l)) (hl : PB ≤ l) (hb : Blk A l #[sv] t) (ht : t ≠ T) : Sx PB T A C := by
  refine ⟨hg.size, fun b x hx h => ?_⟩
  by_cases hbl : b = l
  · subst hbl
    rcases h with h | ⟨cs, f, rfl⟩
    · omega
    · unfold Blk at hb; rw [hb] at hx; cases hx; exact absurd rfl ht
  · exact (hg.block b (Array.getElem?_eq_some_iff.1 hx).1 (by simpa using hbl)).trans hx
theorem Sx.set {PB T b i t : Nat} {A : World} {cs : Array Value} (h : Blk A b cs t) (hb : PB ≤ b) (ht : t ≠ T) (x : Value) : Sx PB T A (A.setCell ⟨b, i, none⟩ x) := by
  refine ⟨by simp [World.setCell], fun c o ho hc => ?_⟩
  by_cases hbl : c = b
  · subst hbl
    rcases hc with hc | ⟨cs, f, rfl⟩
    · omega
    · unfold Blk at h; rw [h] at ho; cases ho; exact absurd rfl ht
  · exact (Below.heap_setCell _ _ _ _ (by simpa using hbl)).trans ho
theorem Kx.refl (PB T : Nat) (A : World) : Kx PB T A A := ⟨Nat.le_refl _, fun _ _ _ h _ => h⟩
theorem Kx.trans {PB T : Nat} {A B C : World} (h : Kx PB T A B) (k : Kx PB T B C) : Kx PB T A C := ⟨Nat.le_trans h.1 k.1, fun b o hb ho hc => k.2 b o hb (h.2 b o hb ho hc) hc⟩
theorem Kx.below {PB T B : Nat} {A C : World} (h : Below B A C) (hB : A.heap.size ≤ B) : Kx PB T A C :=
  ⟨h.size, fun b o _ ho _ => (h.block b (Nat.lt_of_lt_of_le (Array.getElem?_eq_some_iff.1 ho).1 hB)).trans ho⟩
theorem Kx.blk {PB T b t : Nat} {A C : World} {cs : Array Value} (h : Kx PB T A C) (hq : Blk A b cs t) (hb : PB ≤ b) (ht : t ≠ T) : Blk C b cs t :=
  h.2 b _ hb hq (fun cs f e => ht (by cases e; rfl))
theorem Kx.keeps {PB T B : Nat} {A C : World} (h : Kx PB T A C) (hB : PB ≤ B) : KeepsFrom B A C :=
  ⟨h.1, fun i o hi ho hc => h.2 i o (by omega) ho (fun cs f e => by subst e; cases hc)⟩

theorem rowsOf_snoc {w : List UInt8} {many : Nat} {ls : List (List UInt8)} {rs : List (List Int)} (h : rowsOf w many ls = some rs) (l : List UInt8) : rowsOf w many (ls ++ [l]) = (rowOf w many l).map fun r => rs ++ [r] := by
  induction ls generalizing rs with
  | nil =>
    simp only [rowsOf, Option.some.injEq] at h
    subst h
    simp only [List.nil_append, rowsOf]
    cases rowOf w many l <;> rfl
  | cons x y ih =>
    rw [rowsOf] at h
    rw [List.cons_append, rowsOf]
    cases hx : rowOf w many x with
    | none => rw [hx] at h; cases h
    | some a =>
      rw [hx] at h
      simp only at h ⊢
      cases hy : rowsOf w many y with
      | none => rw [hy] at h; cases h
      | some b =>
        rw [hy] at h
        simp only [Option.some.injEq] at h
        subst h
        rw [ih hy]
        cases rowOf w many l <;> rfl
theorem allOf_first (hw : List UInt8) (hm : Nat) (iw : List UInt8) (im : Nat) (l : List UInt8) : allOf hw hm iw im [l] = (rowOf hw hm l).map fun r => [r] := by
  rw [allOf]
  cases rowOf hw hm l <;> rfl
theorem allOf_snoc {hw : List UInt8} {hm : Nat} {iw : List UInt8} {im : Nat} {ls : List (List UInt8)} {rs : List (List Int)} (h : allOf hw hm iw im ls = some rs) (hne : ls ≠ []) (l : List UInt8) : allOf hw hm iw im (ls ++ [l]) = (rowOf iw im l).map fun r => rs ++ [r] := by
  cases ls with
  | nil => exact absurd rfl hne
  | cons x y =>
    rw [allOf] at h
    rw [List.cons_append, allOf]
    cases hx : rowOf hw hm x with
    | none => rw [hx] at h; cases h
    | some a =>
      rw [hx] at h
      simp only at h ⊢
      cases hy : rowsOf iw im y with
      | none => rw [hy] at h; cases h
      | some b =>
        rw [hy] at h
        simp only [Option.some.injEq] at h
        subst h
        rw [rowsOf_snoc hy]
        cases rowOf iw im l <;> rfl
theorem rowsOf_bad {w : List UInt8} {many : Nat} {ls : List (List UInt8)} {k : Nat} (hk : k < ls.length) (h : rowOf w many (ls[k]?.getD []) = none) : rowsOf w many ls = none := by
  induction ls generalizing k with
  | nil => simp at hk
  | cons x y ih =>
    rw [rowsOf]
    cases k with
    | zero => simp only [List.getElem?_cons_zero, Option.getD_some] at h; rw [h]
    | succ k =>
      rw [ih (by simpa using hk) (by simpa using h)]
      cases rowOf w many x <;> rfl
theorem allOf_bad {hw : List UInt8} {hm : Nat} {iw : List UInt8} {im : Nat} {ls : List (List UInt8)} {k : Nat} (hk : k < ls.length) (h : (if k = 0 then rowOf hw hm (ls[k]?.getD []) else rowOf iw im (ls[k]?.getD [])) = none) : allOf hw hm iw im ls = none := by
  cases ls with
  | nil => simp at hk
  | cons x y =>
    rw [allOf]
    cases k with
    | zero => simp only [if_true, List.getElem?_cons_zero, Option.getD_some] at h; rw [h]
    | succ k =>
      rw [if_neg (by omega)] at h
      rw [rowsOf_bad (by simpa using hk) (by simpa using h)]
      cases rowOf hw hm x <;> rfl
theorem rowsOf_len {w : List UInt8} {many : Nat} {ls : List (List UInt8)} {rs : List (List Int)} (h : rowsOf w many ls = some rs) : rs.length = ls.length := by
  induction ls generalizing rs with
  | nil => simp only [rowsOf, Option.some.injEq] at h; subst h; rfl
  | cons x y ih =>
    rw [rowsOf] at h
    cases hx : rowOf w many x with
    | none => rw [hx] at h; cases h
    | some a =>
      rw [hx] at h
      simp only at h
      cases hy : rowsOf w many y with
      | none => rw [hy] at h; cases h
      | some b => rw [hy] at h; simp only [Option.some.injEq] at h; subst h; simp [ih hy]
theorem allOf_len {hw : List UInt8} {hm : Nat} {iw : List UInt8} {im : Nat} {ls : List (List UInt8)} {rs : List (List Int)} (h : allOf hw hm iw im ls = some rs) : rs.length = ls.length := by
  cases ls with
  | nil => simp only [allOf, Option.some.injEq] at h; subst h; rfl
  | cons x y =>
    rw [allOf] at h
    cases hx : rowOf hw hm x with
    | none => rw [hx] at h; cases h
    | some a =>
      rw [hx] at h
      simp only at h
      cases hy : rowsOf iw im y with
      | none => rw [hy] at h; cases h
      | some b => rw [hy] at h; simp only [Option.some.injEq] at h; subst h; simp [rowsOf_len hy]

theorem suffix_10 {l : List UInt8} {n : Nat} (h : 1 ≤ n) (hn : n ≤ l.length := by omega) : Lib.hasSuffix (l.take n) [10] = (l[n - 1]?.getD 0 == 10) := by
  obtain ⟨m, rfl⟩ : ∃ m, n = m + 1 := ⟨n - 1, by omega⟩
  rw [List.take_add_one, List.getElem?_eq_getElem (show m < l.length by omega), Nat.add_sub_cancel, List.getElem?_eq_getElem (show m < l.length by omega)]
  simp only [Option.toList_some, Option.getD_some]
  unfold Lib.hasSuffix
  rw [Bool.eq_iff_iff, List.isSuffixOf_iff_suffix, beq_iff_eq]
  constructor
  · rintro ⟨t, ht⟩
    exact ((List.append_inj' ht rfl).2 |> fun h => by simpa using h.symm)
  · intro h; exact ⟨_, by rw [h]⟩

/-- A piece that only goes on. -/
def onlyN (K : Act → World → Prop) : Exit → Act → World → Prop
  | .normal, a, w => K a w
  | _, _, _ => False
theorem onlyN_mk {K : Act → World → Prop} {a : Act} {w : World} (h : K a w) : onlyN K .normal a w := h
theorem wp_onlyN {P : Program} {c : Code} {Q : Exit → Act → World → Prop} {a : Act} {w : World} (h : c.wp P (onlyN (Q .normal)) a w) : c.wp P Q a w := by
  refine wp_mono h ?_
  intro e a' w' h'
  cases e <;> first | exact h' | exact h'.elim
/-- What is laid while the lines are read. -/
structure PI (base B4 T : Nat) (hw : List UInt8) (hm : Nat) (iw : List UInt8) (im : Nat) (hv iv : Value) (St : List (List Int) → World → Prop) (w0 : World) (pre : List (Nat × List UInt8)) (W : World) : Prop where
  rows : ∃ rows, Hid (allOf hw hm iw im (pre.map (·.2)) = some rows) ∧ Hid (rows.length = pre.length) ∧ St rows W
  head : Blk W B4 #[hv] 23
  item : Blk W (B4 + 1) #[iv] 23
  err : Blk W (B4 + 2) #[.int .i64 0] 33
  bel : Below base w0 W

theorem joinAt_mem_len {c : UInt8} {ls : List (List UInt8)} {l : List UInt8} (h : l ∈ ls) : l.length ≤ (joinAt c ls).length := by
  induction ls with
  | nil => cases h
  | cons p r ih =>
    rw [joinAt, List.length_append, List.length_cons]
    rcases List.mem_cons.1 h with rfl | h
    · omega
    · have := ih h; omega
theorem PI.lt {base B4 T : Nat} {hw : List UInt8} {hm : Nat} {iw : List UInt8} {im : Nat} {hv iv : Value} {St : List (List Int) → World → Prop} {w0 : World} {pre : List (Nat × List UInt8)} {W : World} (h : PI base B4 T hw hm iw im hv iv St w0 pre W) : B4 + 3 ≤ W.heap.size := by
  have := h.err.lt; omega
theorem below_of_put {W : World} {l B : Nat} {o o' : Obj} (hl : W.heap[l]? = some o) (ho : o.isCells = false) (hB : B ≤ l) : Below B W (W.putObj l o') :=
  ⟨rfl, rfl, rfl, by simp [World.putObj], fun b hb => World.putObj_heap_other (by omega)⟩
theorem below_of_grownL {A C : World} {L B : Nat} (hg : A.grownBy C (some L)) (hB : B ≤ L) (hL : L < A.heap.size) : Below B A C :=
  ⟨hg.os, hg.tape, hg.output, hg.size, fun b hb => hg.block b (by omega) (by simp; omega)⟩
set_option maxRecDepth 100000 in
set_option maxHeartbeats 2000000 in
theorem parse_any (base T fh fi : Nat) (ch ci : Array Value) (St : List (List Int) → World → Prop) (hw : List UInt8) (hm : Nat) (iw : List UInt8) (im : Nat) (s : ByteArray) (w : World)
    (eh : ∀ args w, (callFunc fh args).run Tryz.prog w = .ok (.enter fh args) w) (ei : ∀ args w, (callFunc fi args).run Tryz.prog w = .ok (.enter fi args) w)
    (hT1 : T ≠ 23) (hT2 : T ≠ 33) (hT3 : T ≠ 9)
    (hSt : ∀ rows A B, St rows A → Sx w.heap.size T A B → Below base A B → St rows B)
    (hhead : ∀ (x : ByteArray) W, x.size ≤ 2 ^ 30 → St [] W → MaxI base W → Below base w W → Calls Tryz.prog fh (#[.string x] ++ ch) W fun e W' => e = .returned (.bool (rowOf hw hm x.data.toList).isSome) ∧ (∀ r, rowOf hw hm x.data.toList = some r → St [r] W') ∧ Below base W W' ∧ Kx w.heap.size T W W')
    (hitem : ∀ (x : ByteArray) rows W, x.size ≤ 2 ^ 30 → rows ≠ [] → rows.length ≤ 3000000 → St rows W → MaxI base W → Below base w W → Calls Tryz.prog fi (#[.string x] ++ ci) W fun e W' => e = .returned (.bool (rowOf iw im x.data.toList).isSome) ∧ (∀ r, rowOf iw im x.data.toList = some r → St (rows ++ [r]) W') ∧ Below base W W' ∧ Kx w.heap.size T W W')
    (hb : base ≤ w.heap.size) (h0 : St [] w) (hM : MaxI base w) (hDB : 5 < base) (hDB1 : w.cell? ⟨5, 15, none⟩ = some (.int .u8 4)) (hs : s.size ≤ 2 ^ 40) :
    Calls Tryz.prog 43 #[.string s, .func (.func fh) #[] ch, .func (.func fi) #[] ci] w fun e w' => e = .returned (.int .i64 (parseS hw hm iw im s.data.toList).2) ∧ ((parseS hw hm iw im s.data.toList).2 = 0 → St (parseS hw hm iw im s.data.toList).1 w') ∧ Below base w w' := by
  obtain ⟨l, hl⟩ : ∃ l, s.data.toList = l := ⟨_, rfl⟩
  have hsl := size_of hl
  have HL := Lib.hid hl
  rw [hl]
  have hbe : ∀ x : Int, Below base w (((w.alloc (.cells #[.func (.func fh) #[] ch] 23)).alloc (.cells #[.func (.func fi) #[] ci] 23)).alloc (.cells #[.int .i64 x] 33)) := fun x => (((Below.refl base w).alloc hb _).alloc (by simp; omega) _).alloc (by simp; omega) _
  have HBE := Lib.hid hbe
  have hfin : ∀ (x : Int) (W : World), parseS hw hm iw im l = ([], x) → x ≠ 0 → Below base w W → (Ending.returned (.int .i64 x) = Ending.returned (.int .i64 (parseS hw hm iw im l).2)) ∧ ((parseS hw hm iw im l).2 = 0 → St (parseS hw hm iw im l).1 W) ∧ Below base w W := by
    intro x W h h1 h2
    rw [h]
    exact ⟨rfl, fun h => absurd h h1, h2⟩
  have HF := Lib.hid hfin
  clear hfin hbe
  have hee := isEnd_any (s.extract (s.size - 22) s.size)
  rw [Lib.extract_to_end, hl] at hee
  have HSL := Lib.hid hsl
  by_cases hlong : 1048576 < l.length
  case pos =>
    have hlong' : 1048576 < s.size := by omega
    have hp : parseS hw hm iw im l = ([], 3) := by unfold parseS; rw [if_pos hlong]
    have HP := Lib.hid hp
    clear hp hl hsl hlong
    go_enter Tryz.func43, Tryz.ntmps43
    go_wp2_with fail
    exact bodyPost_ret (v := .int .i64 3) (by simp [results, Tryz.results43, go_sem]) rfl (HF.out _ _ HP.out (by decide) (HBE.out 3))
  by_cases hshort : s.size < 22
  case pos =>
    have hp : parseS hw hm iw im l = ([], 360) := by unfold parseS; rw [if_neg hlong, if_pos (by omega)]
    have HP := Lib.hid hp
    clear hp hl hsl hlong
    go_enter Tryz.func43, Tryz.ntmps43
    go_wp2_with fail
    exact bodyPost_ret (v := .int .i64 360) (by simp [results, Tryz.results43, go_sem]) rfl (HF.out _ _ HP.out (by decide) (HBE.out 360))
  have hlong' : s.size ≤ 1048576 := by omega
  have h22 : 22 ≤ s.size := by omega
  cases hef : endForm (l.drop (s.size - 22)) with
  | false =>
    rw [hef] at hee
    have hp : parseS hw hm iw im l = ([], 360) := by
      unfold parseS; rw [if_neg hlong]
      by_cases h23 : l.length < 23
      · rw [if_pos h23]
      · rw [if_neg h23, if_pos (.inl (by rw [← hsl]; exact hef))]
    have HP := Lib.hid hp
    clear hp hl hsl hlong hef hshort
    go_enter Tryz.func43, Tryz.ntmps43
    go_wp2_with fail
    refine (hee _ (by simp; omega)).mono ?_
    rintro e w' ⟨rfl, rfl⟩
    go_wp2_with fail
    exact bodyPost_ret (v := .int .i64 360) (by simp [results, Tryz.results43, go_sem]) rfl (HF.out _ _ HP.out (by decide) (HBE.out 360))
  | true =>
  rw [hef] at hee
  have hsf := fun W => Tryz.strings_HasSuffix (s.extract 0 (s.size - 22)) ⟨#[10]⟩ W (by simp; omega)
  rw [Lib.extract_from_zero, hl, show (⟨#[10]⟩ : ByteArray).data.toList = [10] from rfl] at hsf
  cases hsu : Lib.hasSuffix (l.take (s.size - 22)) [10] with
  | false =>
    rw [hsu] at hsf
    have hp : parseS hw hm iw im l = ([], 360) := by
      unfold parseS; rw [if_neg hlong]
      by_cases h23 : l.length < 23
      · rw [if_pos h23]
      · have hnn : l[l.length - 23]?.getD 0 ≠ 10 := by
          intro h10
          rw [hsl, suffix_10 (by omega), show l.length - 22 - 1 = l.length - 23 by omega, h10] at hsu
          simp at hsu
        rw [if_neg h23, if_pos (.inr hnn)]
    have HP := Lib.hid hp
    clear hp hl hsl hlong hef hsu hshort
    go_enter Tryz.func43, Tryz.ntmps43
    go_wp2_with fail
    refine (hee _ (by simp; omega)).mono ?_
    rintro e w' ⟨rfl, rfl⟩
    go_wp2_with fail
    refine (hsf _).mono ?_
    rintro e w' ⟨rfl, rfl⟩
    go_wp2_with fail
    exact bodyPost_ret (v := .int .i64 360) (by simp [results, Tryz.results43, go_sem]) rfl (HF.out _ _ HP.out (by decide) (HBE.out 360))
  | true =>
  rw [hsu] at hsf
  have h23 : 23 ≤ s.size := by
    rcases Nat.lt_or_ge s.size 23 with h | h
    · rw [show s.size - 22 = 0 by omega] at hsu; simp [Lib.hasSuffix] at hsu
    · exact h
  have h10 : l[l.length - 23]?.getD 0 = 10 := by
    rw [hsl, suffix_10 (by omega), show l.length - 22 - 1 = l.length - 23 by omega] at hsu
    simpa using hsu
  obtain ⟨ls, hls⟩ : ∃ ls, cutAt 10 (l.take (l.length - 23)) = ls := ⟨_, rfl⟩
  have hjo : l.take (s.size - 22) = joinAt 10 ls := by
    rw [← hls, joinAt_cutAt, hsl, show l.length - 22 = (l.length - 23) + 1 by omega, List.take_add_one]
    rw [List.getElem?_eq_getElem (by omega)] at h10 ⊢
    simp only [Option.getD_some] at h10
    rw [h10]; rfl
  have hno : ∀ p ∈ ls, (10 : UInt8) ∉ p := by rw [← hls]; exact cutAt_no _
  have hpsN : allOf hw hm iw im ls = none → parseS hw hm iw im l = ([], 360) := by
    intro h
    unfold parseS
    rw [if_neg hlong, if_neg (by omega), if_neg (by rw [← hsl, hef]; simp [h10, hsl]), hls, h]
  have hpsS : ∀ rows, allOf hw hm iw im ls = some rows → parseS hw hm iw im l = if endB (joinAt 10 ls) = l.drop (s.size - 22) then (rows, 0) else ([], 361) := by
    intro rows h
    unfold parseS
    rw [if_neg hlong, if_neg (by omega), if_neg (by rw [← hsl, hef]; simp [h10, hsl]), hls, h, ← hjo, hsl]
  have HPN := Lib.hid hpsN
  have HPS := Lib.hid hpsS
  have HJO := Lib.hid hjo
  have hbody : (s.extract 0 (s.size - 22)).data.toList = joinAt 10 ls := by rw [Lib.extract_from_zero, hl, hjo]
  obtain ⟨bd, hbd⟩ : ∃ bd, s.extract 0 (s.size - 22) = bd := ⟨_, rfl⟩
  rw [hbd] at hsf hbody
  have hbds : bd.size = s.size - 22 := by rw [← hbd]; simp
  have HBD := Lib.hid hbd
  have HBS := Lib.hid hbds
  have hbdd : bd = ⟨(joinAt 10 ls).toArray⟩ := bytes_eq hbody
  have hjl : (joinAt 10 ls).length ≤ 2 ^ 30 := by rw [← hjo, List.length_take]; omega
  have HBDD := Lib.hid hbdd
  have hjl2 : (joinAt 10 ls).length ≤ 1048576 := by rw [← hjo, List.length_take]; omega
  have hit := fun L h => lines_iter base L ls h hno hjl
  have hmany := joinAt_many ls
  clear hbdd hls hpsN hpsS hjo hbody hbd hbds hl hsl hlong hef hsu hshort h10
  have q4 := ((Blk.new w #[.func (.func fh) #[] ch] 23).alloc (.cells #[.func (.func fi) #[] ci] 23)).alloc (.cells #[.int .i64 0] 33)
  have q5 := (Blk.new (w.alloc (.cells #[.func (.func fh) #[] ch] 23)) #[.func (.func fi) #[] ci] 23).alloc (.cells #[.int .i64 0] 33)
  have q6 := Blk.new ((w.alloc (.cells #[.func (.func fh) #[] ch] 23)).alloc (.cells #[.func (.func fi) #[] ci] 23)) #[.int .i64 0] 33
  have hS1 : Sx w.heap.size T w (((w.alloc (.cells #[.func (.func fh) #[] ch] 23)).alloc (.cells #[.func (.func fi) #[] ci] 23)).alloc (.cells #[.int .i64 0] 33)) := Sx.below (B := w.heap.size) ((((Below.refl _ w).alloc (Nat.le_refl _) _).alloc (by simp) _).alloc (by simp; omega) _) (Nat.le_refl _)
  have hb1 := HBE.out 0
  have hz1 : ((((w.alloc (.cells #[.func (.func fh) #[] ch] 23)).alloc (.cells #[.func (.func fi) #[] ci] 23)).alloc (.cells #[.int .i64 0] 33))).heap.size = w.heap.size + 3 := by simp
  simp only [World.size_alloc] at q5 q6
  obtain ⟨W1, hW1⟩ : ∃ W1, ((w.alloc (.cells #[.func (.func fh) #[] ch] 23)).alloc (.cells #[.func (.func fi) #[] ci] 23)).alloc (.cells #[.int .i64 0] 33) = W1 := ⟨_, rfl⟩
  rw [hW1] at hb1 q4 q5 q6 hS1 hz1
  have HW1 := Lib.hid hW1
  have HZ1 := Lib.hid hz1
  clear hW1 hz1
  refine callsIn_wide.1 (callsIn_of_wp_marks (n := 5) Tryz.func43 rfl trivial ?_)
  simp only [Tryz.ntmps43, List.size_toArray, List.length_cons, List.length_nil, Nat.reduceAdd, Nat.reduceSub, Array.replicate_succ, Array.replicate_zero, List.push_toArray, List.append_toArray, List.nil_append, List.cons_append]
  refine wpIn_wide.2 ?_
  go_wp2_with fail
  refine (hee _ (by simp; omega)).mono ?_
  rintro e w' ⟨rfl, rfl⟩
  go_wp2_with fail
  rw [HW1.out, HBD.out]
  refine (hsf _).mono ?_
  rintro e w' ⟨rfl, rfl⟩
  go_wp2_with fail
  refine (lines_any _ _).mono ?_
  rintro e w' ⟨rfl, rfl⟩
  go_wp2_with fail
  have hz1 := HZ1.out
  obtain ⟨L, hLe⟩ : ∃ L, w'.heap.size = L := ⟨_, rfl⟩
  rw [hLe] at hz1 ⊢
  obtain ⟨B4, hB4⟩ : ∃ B4, w.heap.size = B4 := ⟨_, rfl⟩
  rw [hB4] at hz1 hb q4 q5 q6 hS1 hSt hhead hitem ⊢
  have hLB : B4 + 3 = L := hz1.symm
  clear hz1
  have qL : Blk (w'.alloc (.cells #[.string bd] 9)) L #[.string bd] 9 := hLe ▸ Blk.new w' _ _
  have hbL : Below base w (w'.alloc (.cells #[.string bd] 9)) := hb1.alloc (by omega) _
  have hSL : Sx B4 T w (w'.alloc (.cells #[.string bd] 9)) := hS1.trans (Sx.below (B := w'.heap.size) ((Below.refl _ w').alloc (Nat.le_refl _) _) (Nat.le_refl _))
  have p4 := q4.alloc (.cells #[.string bd] 9)
  have p5 := q5.alloc (.cells #[.string bd] 9)
  have p6 := q6.alloc (.cells #[.string bd] 9)
  have hzL : (w'.alloc (.cells #[.string bd] 9)).heap.size = L + 1 := by simp [hLe]
  obtain ⟨W2, hW2⟩ : ∃ W2, w'.alloc (.cells #[.string bd] 9) = W2 := ⟨_, rfl⟩
  rw [hW2] at qL hbL hSL p4 p5 p6 hzL ⊢
  clear hW2 q4 q5 q6 hS1 hb1
  have hstep : ∀ {pre A B}, PI base B4 T hw hm iw im (.func (.func fh) #[] ch) (.func (.func fi) #[] ci) St w pre A → Sx B4 T A B → Below base A B → (∀ b, b < B4 + 3 → B.heap[b]? = A.heap[b]?) → PI base B4 T hw hm iw im (.func (.func fh) #[] ch) (.func (.func fi) #[] ci) St w pre B := by
    rintro pre A B ⟨⟨rows, h1, h2, h3⟩, h4, h5, h6, h7⟩ hs hb hk
    exact ⟨⟨rows, h1, h2, hSt _ _ _ h3 hs hb⟩, (hk _ (by omega)).trans h4, (hk _ (by omega)).trans h5, (hk _ (by omega)).trans h6, h7.trans hb⟩
  refine (wpIn_wide (n := 5)).1 ?_
  refine range_law (gf := 75) (fi := #[]) (lb := #[.pointer (some ⟨L, 0, none⟩)]) rfl (enters_of Tryz.func75 (by kernel_rfl) rfl) (hit L (by omega)) (fun _ => rfl)
    (fun pre W => PI base B4 T hw hm iw im (.func (.func fh) #[] ch) (.func (.func fi) #[] ci) St w pre W)
    (fun c pre W => c = .ret ∧ Hid (allOf hw hm iw im ls = none) ∧ Blk W (B4 + 2) #[.int .i64 360] 33 ∧ Below base w W)
    (fun pre x a1 W => (PI base B4 T hw hm iw im (.func (.func fh) #[] ch) (.func (.func fi) #[] ci) St w pre W ∧ x.1 = pre.length ∧ pre.length < ls.length ∧ x.2 = ls[pre.length]?.getD [] ∧ pre.map (·.2) = ls.take pre.length ∧ ∃ sv, Blk W L #[sv] 9) ∧ a1 = { tmps := #[.string s, .func (.func fh) #[] ch, .func (.func fi) #[] ci, undef, .pointer (some ⟨B4, 0, none⟩), .pointer (some ⟨B4 + 1, 0, none⟩), .pointer (some ⟨B4 + 1 + 1, 0, none⟩), .string bd, .int .i64 x.1, .string ⟨x.2.toArray⟩, undef, .string s, .int .i64 s.size, .bool (decide (1048576 < (s.size : Int))), .string s, .int .i64 s.size, .bool (decide ((s.size : Int) < 22)), .bool (decide ((s.size : Int) < 22)), .string s, .string s, .int .i64 s.size, .int .i64 ((s.size : Int) - 22), .string (s.extract (s.size - 22) s.size), .bool true, .bool false, .bool (decide ((s.size : Int) < 22)), .string s, .string s, .int .i64 s.size, .int .i64 ((s.size : Int) - 22), .string bd, .string bd, .bool true, .bool false, .string bd, .func (.func 75) #[] #[.pointer (some ⟨L, 0, none⟩)], .int .i64 x.1, .string ⟨x.2.toArray⟩, undef, undef, undef, undef, undef, undef, undef, undef, undef, undef, undef, undef, undef, undef, undef], defers := [] })
    ?hSt ?hI ?hIx ?hA ?hS ?hSp ?hISt ?hIxSt ?hKt ?hKb ?h0 ?hPre ?hassign ?hbody ?hdone ?hstop
  case hassign =>
    intro i pre x W hi hx hlt
    have HX := Lib.hid hx
    clear hx
    gi_wp2
    exact ⟨KeepsFrom.refl _ _, ⟨rfl, Below.refl _ _⟩, ⟨hi, HX.out⟩, trivial⟩
  case hSt =>
    rintro A B hAB ⟨hg, sv, hb⟩
    exact KeepsFrom.of_grownBy hg (fun j e => by cases e; omega)
  case hI =>
    intro pre W l o o' hi hle hl ho
    exact hstep hi (Sx.put (by omega) hl ho o') (below_of_put hl ho (by omega)) (fun b hb => World.putObj_heap_other (by omega))
  case hIx =>
    rintro c pre W l o o' ⟨h1, h2, h3, h4⟩ hle hl ho
    exact ⟨h1, h2, (World.putObj_heap_other (by omega)).trans h3, h4.trans (below_of_put hl ho (by omega))⟩
  case hA =>
    rintro pre x a1 W l o o' ⟨⟨hi, h1, h2, h3, h4, sv, h5⟩, ha⟩ hle hl ho
    exact ⟨⟨hstep hi (Sx.put (by omega) hl ho o') (below_of_put hl ho (by omega)) (fun b hb => World.putObj_heap_other (by omega)), h1, h2, h3, h4, sv, (World.putObj_heap_other (by omega)).trans h5⟩, ha⟩
  case hS => exact fun xs W l o o' h _ _ _ => h
  case hSp => exact fun xs W l o o' h _ _ _ => h
  case hISt =>
    rintro pre A B hi ⟨hg, sv, hb⟩
    exact hstep hi (Sx.grown hg (by omega) hb (fun e => hT3 e.symm)) (below_of_grownL hg (by omega) hb.lt) (fun b hb => hg.block b (Nat.lt_of_lt_of_le (by omega) hi.lt) (by simp; omega))
  case hIxSt =>
    rintro c pre A B ⟨h1, h2, h3, h4⟩ ⟨hg, sv, hb⟩
    exact ⟨h1, h2, (hg.block _ h3.lt (by simp; omega)).trans h3, h4.trans (below_of_grownL hg (by omega) hb.lt)⟩
  case hKt => exact fun A B C h1 h2 => ⟨h2.1.trans h1.1, h1.2.trans h2.2⟩
  case hKb =>
    intro W l o o' hle hl ho
    exact ⟨World.putObj_heap_other (by omega), below_of_put hl ho (by omega)⟩
  case h0 =>
    intro o o'
    have hbb : Below W2.heap.size W2 ((W2.alloc o).alloc o') := ((Below.refl _ _).alloc (Nat.le_refl _) _).alloc (by simp) _
    exact ⟨⟨[], Lib.hid rfl, Lib.hid rfl, hSt _ _ _ h0 (hSL.trans (Sx.below hbb (Nat.le_refl _))) (hbL.trans (hbb.mono (by omega)))⟩, (p4.alloc o).alloc o', (p5.alloc o).alloc o', (p6.alloc o).alloc o', hbL.trans (hbb.mono (by omega))⟩
  case hPre =>
    intro o o'
    have hbb : Below base w ((W2.alloc o).alloc o') := (hbL.alloc (by omega) o).alloc (by simp; omega) o'
    refine ⟨?_, hM.on hbb⟩
    rw [← HBDD.out]
    exact (qL.alloc o).alloc o'
  case hbody =>
    rintro i pre x a1 W ⟨⟨⟨⟨rows, h1, h2, h3⟩, h4, h5, h6, h7⟩, g1, g2, g3, g4, sv, g5⟩, rfl⟩
    have c4 : W.cell? ⟨B4, 0, none⟩ = some (.func (.func fh) #[] ch) := h4.at rfl
    have c5 : W.cell? ⟨B4 + 1, 0, none⟩ = some (.func (.func fi) #[] ci) := h5.at rfl
    obtain ⟨xi, xl⟩ := x
    dsimp only at g1 g3 ⊢
    subst g1
    have G3 := Lib.hid g3
    have G4 := Lib.hid g4
    have hxs : (⟨xl.toArray⟩ : ByteArray).size ≤ 2 ^ 30 := by
      rw [str_size, g3]
      have := joinAt_mem_len (c := 10) (getD_mem g2 ([] : List UInt8))
      omega
    have hxd : (⟨xl.toArray⟩ : ByteArray).data.toList = xl := List.toList_toArray
    have hMW := hM.on h7
    by_cases hp0 : pre.length = 0
    · have hpre : pre = [] := List.eq_nil_of_length_eq_zero hp0
      have hr0 : rows = [] := List.eq_nil_of_length_eq_zero (h2.out.trans hp0)
      subst hr0
      have hcall := hhead ⟨xl.toArray⟩ W hxs h3 hMW h7
      rw [hxd] at hcall
      have h00 : (((pre.length : Nat) : Int) == 0) = true := by rw [beq_iff_eq]; omega
      have HP := Lib.hid hpre
      have HP0 := Lib.hid hp0
      clear hpre hp0 g3 g4 hxd hhead hitem hSt hstep
      gi_wp2_with fail
      refine ⟨trivial, CallsIn.inRound i (callsIn_wide.2 (hcall.mono ?_))⟩
      clear hcall
      cases hr : rowOf hw hm xl with
      | none =>
        rintro e W' ⟨rfl, -, hbw, hkw⟩
        have HR := Lib.hid hr
        have k6 := hkw.blk h6 (by omega) (fun e => hT2 e.symm)
        have c6 : W'.cell? ⟨B4 + 1 + 1, 0, none⟩ = some (.int .i64 0) := k6.at rfl
        have f6 : W'.frozen? ⟨B4 + 1 + 1, 0, none⟩ = false := k6.free 0
        have kL := hkw.blk g5 (by omega) (fun e => hT3 e.symm)
        have hbad : allOf hw hm iw im ls = none := allOf_bad g2 (by rw [if_pos HP0.out, ← G3.out]; exact hr)
        have HBAD := Lib.hid hbad
        clear hr hbad
        gi_wp2_with fail
        have hkf : KeepsFrom W2.heap.size W' (W'.setCell ⟨B4 + 1 + 1, 0, none⟩ (.int .i64 360)) := (KeepsOthers.setCell _ _ _).from _
        refine ⟨(hkw.keeps (by omega)).trans hkf, ⟨((kL.other (by omega) _).trans g5.symm), hbw.setCell (p := ⟨B4 + 1 + 1, 0, none⟩) (by simp; omega) _⟩, rfl, Lib.hid HBAD.out, k6.set _, (h7.trans hbw).setCell (p := ⟨B4 + 1 + 1, 0, none⟩) (by simp; omega) _⟩
      | some r =>
        rintro e W' ⟨rfl, hst, hbw, hkw⟩
        have hst := hst r rfl
        have HR := Lib.hid hr
        have k4 := hkw.blk h4 (by omega) (fun e => hT1 e.symm)
        have k5 := hkw.blk h5 (by omega) (fun e => hT1 e.symm)
        have k6 := hkw.blk h6 (by omega) (fun e => hT2 e.symm)
        have kL := hkw.blk g5 (by omega) (fun e => hT3 e.symm)
        clear hr
        gi_wp2_with fail
        refine ⟨hkw.keeps (by omega), ⟨kL.trans g5.symm, hbw⟩, ⟨_, Lib.hid ?_, Lib.hid ?_, hst⟩, k4, k5, k6, h7.trans hbw⟩
        · rw [HP.out]; show allOf hw hm iw im [xl] = _; rw [allOf_first, HR.out]; rfl
        · rw [HP.out]; rfl
    · have hpne : pre.map (·.2) ≠ [] := by
        intro e
        exact hp0 (by have := congrArg List.length e; simpa using this)
      have hrne : rows ≠ [] := by
        intro e
        exact hp0 (by rw [← h2.out, e]; rfl)
      have hcall := hitem ⟨xl.toArray⟩ rows W hxs hrne (by rw [h2.out]; omega) h3 hMW h7
      rw [hxd] at hcall
      have h00 : (((pre.length : Nat) : Int) == 0) = false := by rw [beq_eq_false_iff_ne]; omega
      have HPN' := Lib.hid hpne
      have HP0 := Lib.hid hp0
      clear hpne hrne hp0 g3 g4 hxd hhead hitem hSt hstep
      gi_wp2_with fail
      refine ⟨trivial, CallsIn.inRound i (callsIn_wide.2 (hcall.mono ?_))⟩
      clear hcall
      cases hr : rowOf iw im xl with
      | none =>
        rintro e W' ⟨rfl, -, hbw, hkw⟩
        have HR := Lib.hid hr
        have k6 := hkw.blk h6 (by omega) (fun e => hT2 e.symm)
        have c6 : W'.cell? ⟨B4 + 1 + 1, 0, none⟩ = some (.int .i64 0) := k6.at rfl
        have f6 : W'.frozen? ⟨B4 + 1 + 1, 0, none⟩ = false := k6.free 0
        have kL := hkw.blk g5 (by omega) (fun e => hT3 e.symm)
        have hbad : allOf hw hm iw im ls = none := allOf_bad g2 (by rw [if_neg HP0.out, ← G3.out]; exact hr)
        have HBAD := Lib.hid hbad
        clear hr hbad
        gi_wp2_with fail
        have hkf : KeepsFrom W2.heap.size W' (W'.setCell ⟨B4 + 1 + 1, 0, none⟩ (.int .i64 360)) := (KeepsOthers.setCell _ _ _).from _
        refine ⟨(hkw.keeps (by omega)).trans hkf, ⟨((kL.other (by omega) _).trans g5.symm), hbw.setCell (p := ⟨B4 + 1 + 1, 0, none⟩) (by simp; omega) _⟩, rfl, Lib.hid HBAD.out, k6.set _, (h7.trans hbw).setCell (p := ⟨B4 + 1 + 1, 0, none⟩) (by simp; omega) _⟩
      | some r =>
        rintro e W' ⟨rfl, hst, hbw, hkw⟩
        have hst := hst r rfl
        have HR := Lib.hid hr
        have k4 := hkw.blk h4 (by omega) (fun e => hT1 e.symm)
        have k5 := hkw.blk h5 (by omega) (fun e => hT1 e.symm)
        have k6 := hkw.blk h6 (by omega) (fun e => hT2 e.symm)
        have kL := hkw.blk g5 (by omega) (fun e => hT3 e.symm)
        clear hr
        gi_wp2_with fail
        refine ⟨hkw.keeps (by omega), ⟨kL.trans g5.symm, hbw⟩, ⟨_, Lib.hid ?_, Lib.hid ?_, hst⟩, k4, k5, k6, h7.trans hbw⟩
        · rw [List.map_append]; show allOf hw hm iw im (_ ++ [xl]) = _; rw [allOf_snoc h1.out HPN'.out, HR.out]; rfl
        · simp [h2.out]
  case hdone =>
    rintro D xs W hD hS ⟨⟨rows, h1, h2, h3⟩, h4, h5, h6, h7⟩ hd
    have hbds : bd.size ≤ s.size := by rw [HBS.out]; omega
    have hrd : allOf hw hm iw im ls = some rows := by rw [← hS]; exact h1.out
    have hp := HPS.out rows hrd
    have HP := Lib.hid hp
    have c6 : W.cell? ⟨B4 + 1 + 1, 0, none⟩ = some (.int .i64 0) := h6.at rfl
    have f6 : W.frozen? ⟨B4 + 1 + 1, 0, none⟩ = false := h6.free 0
    have HSt := Lib.hid hSt
    clear hp hrd hS hhead hitem hSt hstep
    go_wp2_with fail
    have hend := end_any (joinAt 10 ls) W.drew (by omega) (((h7.cell (p := ⟨5, 15, none⟩) hDB)).trans hDB1)
    rw [← HBDD.out] at hend
    have hxl : (⟨(endB (joinAt 10 ls)).toArray⟩ : ByteArray).toList = endB (joinAt 10 ls) := toList_of List.toList_toArray
    have hxr : (s.extract bd.size s.size).toList = l.drop (s.size - 22) := by
      rw [Lib.toList_data, Lib.extract_to_end, HL.out, HBS.out]
    obtain ⟨te, hte⟩ : ∃ te, (⟨(endB (joinAt 10 ls)).toArray⟩ : ByteArray) = te := ⟨_, rfl⟩
    rw [hte] at hend hxl
    have hW := h7
    have h8 := h6
    have HXL := Lib.hid hxl
    have HXR := Lib.hid hxr
    clear hte h4 h5 hxl hxr
    refine wp_onlyN ?_
    refine region_plain (fun _ => True) [] (by kernel_rfl) ?_
    have q0 : (fun _ : World => True) W.drew := trivial
    refine wpAnyD_take (i := 0) (v := .string bd) rfl (by kernel_rfl) (by kernel_rfl) (by kernel_rfl) (by kernel_rfl) (by kernel_rfl) (fun _ _ _ h => h) (.inl ⟨by kernel_rfl, fun W' hS => by go_simp⟩) q0 ?_
    refine wpAnyD_take (i := 2) (v := .string s) rfl (by kernel_rfl) (by kernel_rfl) (by kernel_rfl) (by kernel_rfl) (by kernel_rfl) (fun _ _ _ h => h) (.inl ⟨by kernel_rfl, fun W' hS => by go_simp⟩) q0 ?_
    refine wpAnyD_take (i := 3) (v := .string bd) rfl (by kernel_rfl) (by kernel_rfl) (by kernel_rfl) (by kernel_rfl) (by kernel_rfl) (fun _ _ _ h => h) (.inl ⟨by kernel_rfl, fun W' hS => by go_simp⟩) q0 ?_
    refine wpAnyD_take (i := 4) (v := .int .i64 bd.size) rfl (by kernel_rfl) (by kernel_rfl) (by kernel_rfl) (by kernel_rfl) (by kernel_rfl) (fun _ _ _ h => h) (.inl ⟨by kernel_rfl, fun W' hS => by go_simp⟩) q0 ?_
    refine wpAnyD_take (i := 5) (v := .string (s.extract bd.size s.size)) rfl (by kernel_rfl) (by kernel_rfl) (by kernel_rfl) (by kernel_rfl) (by kernel_rfl) (fun _ _ _ h => h) (.inl ⟨by kernel_rfl, fun W' hS => by go_simp⟩) q0 ?_
    refine wpAnyD_one (i := 1) (by kernel_rfl) rfl (by kernel_rfl) ?_
    go_simp
    refine hend.mono ?_
    rintro e w3 ⟨rfl, hb3⟩
    refine wpAnyD_one (i := 6) (by kernel_rfl) rfl (by kernel_rfl) ?_
    go_simp
    refine wpAnyD_done (by kernel_rfl) ?_ _
    have hbx : Below base W w3 := ⟨hb3.os, hb3.tape, hb3.output, hb3.size, fun b hb => hb3.block b (Nat.lt_of_lt_of_le (Nat.lt_of_lt_of_le hb (by omega)) h7.size)⟩
    have k6 : Blk w3 (B4 + 2) #[.int .i64 0] 33 := (hb3.block _ h6.lt).trans h6
    have k7 : w3.heap[D]? = some (.deferred (some [])) := (hb3.block _ (Array.getElem?_eq_some_iff.1 hd).1).trans hd
    have g6 : w3.cell? ⟨B4 + 1 + 1, 0, none⟩ = some (.int .i64 0) := k6.at rfl
    have gf6 : w3.frozen? ⟨B4 + 1 + 1, 0, none⟩ = false := k6.free 0
    by_cases heq : endB (joinAt 10 ls) = l.drop (s.size - 22)
    · have ht : (!te.toList == (s.extract bd.size s.size).toList) = false := by rw [HXL.out, HXR.out, heq]; simp
      have hp0 : parseS hw hm iw im l = (rows, 0) := by rw [HP.out, if_pos heq]
      have HP0 := Lib.hid hp0
      clear heq hp0 c6 f6
      refine onlyN_mk ?_
      go_wp2_with fail
      · exfalso
        have htest : (!te.toList == (s.extract bd.size s.size).toList) = true := by assumption
        rw [ht] at htest
        cases htest
      · have hq : Blk ((w3.setCell ⟨B4 + 1 + 1, 0, none⟩ (.int .i64 0)).putObj D (.deferred none)) (B4 + 2) #[.int .i64 0] 33 := (World.putObj_heap_other (by omega)).trans (k6.set (i := 0) _)
        have hc := hq.at (i := 0) rfl
        have hd3 : (w3.setCell ⟨B4 + 1 + 1, 0, none⟩ (.int .i64 0)).heap[D]? = some (.deferred (some [])) := (Below.heap_setCell _ _ _ _ (by simp; omega)).trans k7
        have hbe : Below base w3 (w3.setCell ⟨B4 + 1 + 1, 0, none⟩ (.int .i64 0)) := (Below.refl base w3).setCell (p := ⟨B4 + 1 + 1, 0, none⟩) (by simp; omega) _
        have hbp : Below base (w3.setCell ⟨B4 + 1 + 1, 0, none⟩ (.int .i64 0)) ((w3.setCell ⟨B4 + 1 + 1, 0, none⟩ (.int .i64 0)).putObj D (.deferred none)) := below_of_put hd3 rfl (by omega)
        have hc' : ((w3.setCell ⟨B4 + 1 + 1, 0, none⟩ (.int .i64 0)).putObj D (.deferred none)).cell? ⟨B4 + 1 + 1, 0, none⟩ = some (.int .i64 0) := hc
        refine ⟨by simp, .inl ⟨_, _, rfl, run_takeDeferred hd3, ?_⟩⟩
        refine ⟨.int .i64 0, by simp [results, Tryz.results43, go_sem, hc'], by rw [HP0.out], fun h => ?_, ((h7.trans hbx).trans hbe).trans hbp⟩
        rw [HP0.out]
        exact HSt.out _ _ _ h3 (((Sx.below hb3 (Nat.le_refl _)).trans (Sx.set k6 (by omega) (fun e => hT2 e.symm) _)).trans (Sx.put (by omega) hd3 rfl _)) ((hbx.trans hbe).trans hbp)
    · have ht : (!te.toList == (s.extract bd.size s.size).toList) = true := by rw [HXL.out, HXR.out]; simpa using heq
      have hp0 : parseS hw hm iw im l = ([], 361) := by rw [HP.out, if_neg heq]
      have HP0 := Lib.hid hp0
      clear heq hp0 c6 f6
      refine onlyN_mk ?_
      go_wp2_with fail
      · have hq : Blk ((w3.setCell ⟨B4 + 1 + 1, 0, none⟩ (.int .i64 361)).putObj D (.deferred none)) (B4 + 2) #[.int .i64 361] 33 := (World.putObj_heap_other (by omega)).trans (k6.set (i := 0) _)
        have hc := hq.at (i := 0) rfl
        have hd3 : (w3.setCell ⟨B4 + 1 + 1, 0, none⟩ (.int .i64 361)).heap[D]? = some (.deferred (some [])) := (Below.heap_setCell _ _ _ _ (by simp; omega)).trans k7
        have hbe : Below base w3 (w3.setCell ⟨B4 + 1 + 1, 0, none⟩ (.int .i64 361)) := (Below.refl base w3).setCell (p := ⟨B4 + 1 + 1, 0, none⟩) (by simp; omega) _
        have hbp : Below base (w3.setCell ⟨B4 + 1 + 1, 0, none⟩ (.int .i64 361)) ((w3.setCell ⟨B4 + 1 + 1, 0, none⟩ (.int .i64 361)).putObj D (.deferred none)) := below_of_put hd3 rfl (by omega)
        have hc' : ((w3.setCell ⟨B4 + 1 + 1, 0, none⟩ (.int .i64 361)).putObj D (.deferred none)).cell? ⟨B4 + 1 + 1, 0, none⟩ = some (.int .i64 361) := hc
        refine ⟨by simp, .inl ⟨_, _, rfl, run_takeDeferred hd3, ?_⟩⟩
        refine ⟨.int .i64 361, by simp [results, Tryz.results43, go_sem, hc'], by rw [HP0.out], fun h => ?_, ((h7.trans hbx).trans hbe).trans hbp⟩
        rw [HP0.out] at h; cases h
      · exfalso
        have htest : (!te.toList == (s.extract bd.size s.size).toList) = false := by assumption
        rw [ht] at htest
        cases htest
  case hstop =>
    rintro D c pre W hD _ ⟨rfl, hbad, h3, h4⟩ hd
    refine wpIn_wide.2 ?_
    go_wp2_with fail
    have hq : Blk (W.putObj D (.deferred none)) (B4 + 2) #[.int .i64 360] 33 := (World.putObj_heap_other (by omega)).trans h3
    have hc : (W.putObj D (.deferred none)).cell? ⟨B4 + 1 + 1, 0, none⟩ = some (.int .i64 360) := hq.at rfl
    have hp := HPN.out hbad.out
    refine ⟨by simp, .inl ⟨_, _, rfl, run_takeDeferred hd, ?_⟩⟩
    refine ⟨.int .i64 360, by simp [results, Tryz.results43, go_sem, hc], by rw [hp], fun h => ?_, h4.trans (below_of_put hd rfl (by omega))⟩
    rw [hp] at h; cases h
end Go.Proofs.YtaccaebdmndkiaaGreatDoor
