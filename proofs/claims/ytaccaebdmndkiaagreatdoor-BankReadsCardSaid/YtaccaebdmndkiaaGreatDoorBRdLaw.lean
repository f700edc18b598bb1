/- The plain law of reading: a text that is written is read again, and what is read is what was written. No program in sight; no conditions. -/
import Derived.Test.YtaccaebdmndkiaaGreatDoorBRd
namespace Go.Proofs.YtaccaebdmndkiaaGreatDoor
open Go
set_option linter.unusedVariables false

theorem dig_no {b : UInt8} (h : isDig b = true) : b ≠ 32 ∧ b ≠ 10 ∧ b ≠ 0 := by
  refine ⟨?_, ?_, ?_⟩ <;> rintro rfl <;> simp [isDig] at h
theorem itoa_no (n : Int) : ∀ b ∈ Lib.itoa n, b ≠ 32 ∧ b ≠ 10 ∧ b ≠ 0 := by
  intro b hb
  rcases itoa_cases n with ⟨_, h⟩ | ⟨_, h⟩
  · rw [h] at hb; exact dig_no (decDigits_dig _ b hb)
  · rw [h] at hb
    rcases List.mem_cons.1 hb with rfl | hb
    · decide
    · exact dig_no (decDigits_dig _ b hb)
theorem cutAt_nums {p : List UInt8} (hp : (32 : UInt8) ∉ p) (ns : List Int) : cutAt 32 (p ++ numsB ns) = p :: ns.map Lib.itoa := by
  induction ns generalizing p with
  | nil => rw [numsB, List.append_nil, cutAt_none hp]; rfl
  | cons n r ih =>
    rw [numsB, List.cons_append, cutAt_hit hp, ih fun h => (itoa_no n 32 h).1 rfl]
    rfl
theorem numsOf_map {ns : List Int} (h : ∀ n ∈ ns, Gm n) : numsOf (ns.map Lib.itoa) = some ns := by
  induction ns with
  | nil => rfl
  | cons n r ih =>
    rw [List.map_cons, numsOf, numOf_itoa (h n (by simp))]
    simp only
    rw [ih fun m hm => h m (List.mem_cons_of_mem _ hm)]
theorem numsOf_some {ws : List (List UInt8)} {ns : List Int} (h : numsOf ws = some ns) : ws = ns.map Lib.itoa ∧ ∀ n ∈ ns, Gm n := by
  induction ws generalizing ns with
  | nil => simp only [numsOf, Option.some.injEq] at h; subst h; exact ⟨rfl, by simp⟩
  | cons w r ih =>
    rw [numsOf] at h
    cases hn : numOf w with
    | none => rw [hn] at h; cases h
    | some n =>
      rw [hn] at h
      simp only at h
      cases hr : numsOf r with
      | none => rw [hr] at h; cases h
      | some ms =>
        rw [hr] at h
        simp only [Option.some.injEq] at h
        subst h
        obtain ⟨h1, h2⟩ := ih hr
        obtain ⟨h3, h4⟩ := numOf_some hn
        refine ⟨by rw [List.map_cons, h4, ← h1], fun m hm => ?_⟩
        rcases List.mem_cons.1 hm with rfl | hm
        · exact h3
        · exact h2 m hm
theorem cutAt_inj {c : UInt8} {a b : List UInt8} (h : cutAt c a = cutAt c b) : a = b := by
  have h1 := joinAt_cutAt c a
  rw [h, joinAt_cutAt] at h1
  exact (List.append_cancel_right h1).symm
theorem rowOf_mk {w : List UInt8} (hw : (32 : UInt8) ∉ w) {ns : List Int} (h : ∀ n ∈ ns, Gm n) : rowOf w ns.length (w ++ numsB ns) = some ns := by
  rw [rowOf, cutAt_nums hw, if_pos ⟨by simp, rfl⟩]
  exact numsOf_map h
theorem rowOf_some {w line : List UInt8} {many : Nat} {ns : List Int} (hw : (32 : UInt8) ∉ w) (h : rowOf w many line = some ns) : line = w ++ numsB ns ∧ ns.length = many ∧ ∀ n ∈ ns, Gm n := by
  rw [rowOf] at h
  split at h
  · rename_i hc
    obtain ⟨hl, hd⟩ := hc
    obtain ⟨h1, h2⟩ := numsOf_some h
    have e : cutAt 32 line = w :: ns.map Lib.itoa := by
      cases hcut : cutAt 32 line with
      | nil => exact absurd hcut (cutAt_ne _ _)
      | cons x y => rw [hcut] at hd h1; simp only [List.headD_cons, List.tail_cons] at hd h1; rw [hd, h1]
    refine ⟨cutAt_inj (e.trans (cutAt_nums hw ns).symm), ?_, h2⟩
    rw [e] at hl
    simpa using hl
  · cases h
theorem rowOf_other {w w' line : List UInt8} {many many' : Nat} {ns : List Int} (hw : (32 : UInt8) ∉ w) (hne : w ≠ w') (hl : line = w ++ numsB ns) : rowOf w' many' line = none := by
  rw [rowOf, hl, cutAt_nums hw, if_neg]
  rintro ⟨_, h⟩
  exact hne h

def GoodR (many : Nat) (ns : List Int) : Prop := ns.length = many ∧ ∀ n ∈ ns, Gm n
def linesB (w : List UInt8) : List (List Int) → List UInt8
  | [] => []
  | r :: rs => lineB w r ++ linesB w rs
theorem linesB_join (w : List UInt8) (rs : List (List Int)) : linesB w rs = joinAt 10 (rs.map fun ns => w ++ numsB ns) := by
  induction rs with
  | nil => rfl
  | cons r rs ih => simp [linesB, joinAt, lineB, ih]
theorem rowsOf_mk {w : List UInt8} (hw : (32 : UInt8) ∉ w) {many : Nat} {rs : List (List Int)} (h : ∀ r ∈ rs, GoodR many r) : rowsOf w many (rs.map fun ns => w ++ numsB ns) = some rs := by
  induction rs with
  | nil => rfl
  | cons r rs ih =>
    obtain ⟨h1, h2⟩ := h r (by simp)
    subst h1
    rw [List.map_cons, rowsOf, rowOf_mk hw h2]
    simp only
    rw [ih fun x hx => h x (List.mem_cons_of_mem _ hx)]
theorem rowsOf_some {w : List UInt8} (hw : (32 : UInt8) ∉ w) {many : Nat} {ls : List (List UInt8)} {rs : List (List Int)} (h : rowsOf w many ls = some rs) : ls = (rs.map fun ns => w ++ numsB ns) ∧ ∀ r ∈ rs, GoodR many r := by
  induction ls generalizing rs with
  | nil => simp only [rowsOf, Option.some.injEq] at h; subst h; exact ⟨rfl, by simp⟩
  | cons l r ih =>
    rw [rowsOf] at h
    cases hn : rowOf w many l with
    | none => rw [hn] at h; cases h
    | some n =>
      rw [hn] at h
      simp only at h
      cases hr : rowsOf w many r with
      | none => rw [hr] at h; cases h
      | some ms =>
        rw [hr] at h
        simp only [Option.some.injEq] at h
        subst h
        obtain ⟨h1, h2⟩ := ih hr
        obtain ⟨h3, h4, h5⟩ := rowOf_some hw hn
        refine ⟨by rw [List.map_cons, h3, ← h1], fun m hm => ?_⟩
        rcases List.mem_cons.1 hm with rfl | hm
        · exact ⟨h4, h5⟩
        · exact h2 m hm
theorem allOf_mk {hw iw : List UInt8} (h1 : (32 : UInt8) ∉ hw) (h2 : (32 : UInt8) ∉ iw) {hm im : Nat} {r : List Int} {rs : List (List Int)} (hr : GoodR hm r) (hrs : ∀ r ∈ rs, GoodR im r) :
    allOf hw hm iw im ((hw ++ numsB r) :: rs.map fun ns => iw ++ numsB ns) = some (r :: rs) := by
  obtain ⟨h3, h4⟩ := hr
  subst h3
  rw [allOf, rowOf_mk h1 h4]
  simp only
  rw [rowsOf_mk h2 hrs]
theorem allOf_some {hw iw : List UInt8} (h1 : (32 : UInt8) ∉ hw) (h2 : (32 : UInt8) ∉ iw) {hm im : Nat} {l : List UInt8} {ls : List (List UInt8)} {rows : List (List Int)} (h : allOf hw hm iw im (l :: ls) = some rows) :
    ∃ r rs, rows = r :: rs ∧ GoodR hm r ∧ (∀ r ∈ rs, GoodR im r) ∧ l = hw ++ numsB r ∧ ls = rs.map fun ns => iw ++ numsB ns := by
  rw [allOf] at h
  cases hn : rowOf hw hm l with
  | none => rw [hn] at h; cases h
  | some n =>
    rw [hn] at h
    simp only at h
    cases hr : rowsOf iw im ls with
    | none => rw [hr] at h; cases h
    | some ms =>
      rw [hr] at h
      simp only [Option.some.injEq] at h
      subst h
      obtain ⟨h3, h4, h5⟩ := rowOf_some h1 hn
      obtain ⟨h6, h7⟩ := rowsOf_some h2 hr
      exact ⟨n, ms, rfl, ⟨h4, h5⟩, h7, h3, h6⟩

/-- The lines of a text: the first, and the others. -/
def bodyS (hw iw : List UInt8) (r : List Int) (rs : List (List Int)) : List UInt8 := lineB hw r ++ linesB iw rs
theorem numsB_no (ns : List Int) : ∀ b ∈ numsB ns, b ≠ 10 ∧ b ≠ 0 := by
  induction ns with
  | nil => simp [numsB]
  | cons n r ih =>
    intro b hb
    rw [numsB] at hb
    simp only [List.cons_append, List.mem_cons, List.mem_append] at hb
    rcases hb with rfl | hb | hb
    · decide
    · exact (itoa_no n b hb).2
    · exact ih b hb
theorem cutAt_body {hw iw : List UInt8} (h1 : (10 : UInt8) ∉ hw) (h2 : (10 : UInt8) ∉ iw) (r : List Int) (rs : List (List Int)) :
    cutAt 10 ((bodyS hw iw r rs).dropLast) = (hw ++ numsB r) :: rs.map (fun ns => iw ++ numsB ns) ∧ ∃ m, bodyS hw iw r rs = m ++ [10] := by
  have hj : bodyS hw iw r rs = joinAt 10 ((hw ++ numsB r) :: rs.map fun ns => iw ++ numsB ns) := by
    rw [bodyS, linesB_join, joinAt, lineB]; simp
  obtain ⟨a, x, hax⟩ : ∃ a x, ((hw ++ numsB r) :: rs.map fun ns => iw ++ numsB ns) = a ++ [x] := by
    exact ⟨_, _, (List.dropLast_concat_getLast (l := (hw ++ numsB r) :: rs.map fun ns => iw ++ numsB ns) (by simp)).symm⟩
  have hno : ∀ l ∈ ((hw ++ numsB r) :: rs.map fun ns => iw ++ numsB ns), (10 : UInt8) ∉ l := by
    intro l hl
    rcases List.mem_cons.1 hl with rfl | hl
    · intro hb
      rcases List.mem_append.1 hb with hb | hb
      · exact h1 hb
      · exact (numsB_no _ _ hb).1 rfl
    · obtain ⟨ns, _, rfl⟩ := List.mem_map.1 hl
      intro hb
      rcases List.mem_append.1 hb with hb | hb
      · exact h2 hb
      · exact (numsB_no _ _ hb).1 rfl
  have e : bodyS hw iw r rs = (joinAt 10 a ++ x) ++ [10] := by
    rw [hj, hax, joinAt_append, joinAt, joinAt]; simp
  refine ⟨?_, _, e⟩
  rw [e, List.dropLast_concat, hax]
  rw [hax] at hno
  exact cutAt_joinAt (fun l hl => hno l (by simp [hl])) x (hno x (by simp))

theorem hexd_form (n : Nat) (h : n < 16) : isHexd (hexd n) = true := by
  unfold hexd isHexd
  by_cases h10 : n < 10
  · rw [if_pos h10]
    have : (UInt8.ofNat (48 + n)).toNat = 48 + n := by simp; omega
    simp; omega
  · rw [if_neg h10]
    have : (UInt8.ofNat (87 + n)).toNat = 87 + n := by simp; omega
    simp; omega
theorem hexk_form (k n : Nat) : (hexk k n).all isHexd = true := by
  induction k generalizing n with
  | zero => rfl
  | succ k ih => rw [hexk, List.all_append, ih]; simp [hexd_form _ (Nat.mod_lt n (by omega : 16 > 0))]
theorem endB_form (B : List UInt8) : endForm (endB B) = true := by
  have ha : (hex8 (sA B % 4294967296)).length = 8 := hexk_length _ _
  have hb : (hex8 (sW 0 B % 4294967296)).length = 8 := hexk_length _ _
  have hfa : (hex8 (sA B % 4294967296)).all isHexd = true := hexk_form _ _
  have hfb : (hex8 (sW 0 B % 4294967296)).all isHexd = true := hexk_form _ _
  have hl := endB_length B
  unfold endForm
  rw [hl]
  unfold endB
  generalize hex8 (sA B % 4294967296) = x at *
  generalize hex8 (sW 0 B % 4294967296) = y at *
  match x, ha with
  | [x0, x1, x2, x3, x4, x5, x6, x7], _ =>
    match y, hb with
    | [y0, y1, y2, y3, y4, y5, y6, y7], _ =>
      simp at hfa hfb ⊢
      simp [hfa, hfb]

theorem parse_mk {hw iw : List UInt8} (h1 : (32 : UInt8) ∉ hw ∧ (10 : UInt8) ∉ hw) (h2 : (32 : UInt8) ∉ iw ∧ (10 : UInt8) ∉ iw) {hm im : Nat} {r : List Int} {rs : List (List Int)} (hr : GoodR hm r) (hrs : ∀ r ∈ rs, GoodR im r)
    (hlen : (bodyS hw iw r rs).length + 22 ≤ 1048576) : parseS hw hm iw im (bodyS hw iw r rs ++ endB (bodyS hw iw r rs)) = (r :: rs, 0) := by
  obtain ⟨hc, m, hm⟩ := cutAt_body h1.2 h2.2 r rs
  have hpos : 1 ≤ (bodyS hw iw r rs).length := by rw [hm]; simp
  have hl : (bodyS hw iw r rs ++ endB (bodyS hw iw r rs)).length = (bodyS hw iw r rs).length + 22 := by rw [List.length_append, endB_length]
  have hd : (bodyS hw iw r rs ++ endB (bodyS hw iw r rs)).drop (bodyS hw iw r rs).length = endB (bodyS hw iw r rs) := List.drop_left
  have ht : (bodyS hw iw r rs ++ endB (bodyS hw iw r rs)).take (bodyS hw iw r rs).length = bodyS hw iw r rs := List.take_left
  have ht1 : (bodyS hw iw r rs ++ endB (bodyS hw iw r rs)).take ((bodyS hw iw r rs).length - 1) = (bodyS hw iw r rs).dropLast := by
    rw [List.take_append_of_le_length (by omega), List.dropLast_eq_take]
  have hg : (bodyS hw iw r rs ++ endB (bodyS hw iw r rs))[(bodyS hw iw r rs).length - 1]?.getD 0 = 10 := by
    rw [List.getElem?_append_left (by omega), hm]; simp
  unfold parseS
  rw [hl, if_neg (by omega), if_neg (by omega), show (bodyS hw iw r rs).length + 22 - 22 = (bodyS hw iw r rs).length by omega, show (bodyS hw iw r rs).length + 22 - 23 = (bodyS hw iw r rs).length - 1 by omega, hd, ht, ht1, hg, endB_form, if_neg (by simp), hc, allOf_mk h1.1 h2.1 hr hrs]
  simp
theorem parse_some {hw iw : List UInt8} (h1 : (32 : UInt8) ∉ hw) (h2 : (32 : UInt8) ∉ iw) {hm im : Nat} {l : List UInt8} {rows : List (List Int)} (h : parseS hw hm iw im l = (rows, 0)) :
    ∃ r rs, rows = r :: rs ∧ GoodR hm r ∧ (∀ r ∈ rs, GoodR im r) ∧ l = bodyS hw iw r rs ++ endB (bodyS hw iw r rs) ∧ l.length ≤ 1048576 := by
  unfold parseS at h
  split at h
  · simp at h
  rename_i hL
  split at h
  · simp at h
  rename_i hl
  split at h
  · simp at h
  rename_i hf
  have hgd : l[l.length - 23]?.getD 0 = 10 := by
    by_cases hx : l[l.length - 23]?.getD 0 = 10
    · exact hx
    · exact absurd (.inr hx) hf
  cases ha : allOf hw hm iw im (cutAt 10 (l.take (l.length - 23))) with
  | none => rw [ha] at h; simp at h
  | some rows' =>
    rw [ha] at h
    simp only at h
    split at h
    · rename_i he
      simp only [Prod.mk.injEq, and_true] at h
      subst h
      obtain ⟨x, y, hxy⟩ : ∃ x y, cutAt 10 (l.take (l.length - 23)) = x :: y := by
        cases hc : cutAt 10 (l.take (l.length - 23)) with
        | nil => exact absurd hc (cutAt_ne _ _)
        | cons x y => exact ⟨x, y, rfl⟩
      rw [hxy] at ha
      obtain ⟨r, rs, rfl, g1, g2, rfl, rfl⟩ := allOf_some h1 h2 ha
      have hb : l.take (l.length - 22) = bodyS hw iw r rs := by
        have h3 := joinAt_cutAt 10 (l.take (l.length - 23))
        rw [hxy] at h3
        have h4 : l.take (l.length - 22) = l.take (l.length - 23) ++ [10] := by
          rw [show l.length - 22 = (l.length - 23) + 1 by omega, List.take_add_one]
          rw [List.getElem?_eq_getElem (by omega)] at hgd ⊢
          simp only [Option.getD_some] at hgd
          rw [hgd]; rfl
        rw [h4, ← h3, bodyS, linesB_join, joinAt, lineB]; simp
      refine ⟨r, rs, rfl, g1, g2, ?_, by omega⟩
      rw [← hb, he, List.take_append_drop]
    · simp at h
theorem parse_err {hw iw : List UInt8} {hm im : Nat} {l : List UInt8} (h : (parseS hw hm iw im l).2 ≠ 0) : (parseS hw hm iw im l).1 = [] := by
  unfold parseS at h ⊢
  split
  · rfl
  split
  · rfl
  split
  · rfl
  split
  · rfl
  rename_i hL hl hf _ rows ha
  split
  · rename_i he
    rw [if_neg hL, if_neg hl, if_neg hf, ha] at h
    simp [he] at h
  · rfl
/-- The errors. -/
theorem parse_errs (hw iw : List UInt8) (hm im : Nat) (l : List UInt8) : (parseS hw hm iw im l).2 = 0 ∨ (parseS hw hm iw im l).2 = 3 ∨ (parseS hw hm iw im l).2 = 360 ∨ (parseS hw hm iw im l).2 = 361 := by
  unfold parseS
  split
  · simp
  split
  · simp
  split
  · simp
  split
  · simp
  split <;> simp

/-! ### Files and answers -/
theorem wPAY_no : (32 : UInt8) ∉ wPAY ∧ (10 : UInt8) ∉ wPAY := by decide
theorem wOrder_no : (32 : UInt8) ∉ wOrder ∧ (10 : UInt8) ∉ wOrder := by decide
theorem wBACK_no : (32 : UInt8) ∉ wBACK ∧ (10 : UInt8) ∉ wBACK := by decide
theorem wReturn_no : (32 : UInt8) ∉ wReturn ∧ (10 : UInt8) ∉ wReturn := by decide
def odN (o : Od) : List Int := [o.num, o.acc, o.gross, o.tax, o.net]
def rtN (r : Rt) : List Int := [r.ord, r.why]
theorem odOf_N (o : Od) : odOf (odN o) = o := rfl
theorem rtOf_N (o : Rt) : rtOf (rtN o) = o := rfl
theorem odN_of {r : List Int} (h : r.length = 5) : odN (odOf r) = r := by
  match r, h with
  | [a, b, c, d, e], _ => rfl
theorem rtN_of {r : List Int} (h : r.length = 2) : rtN (rtOf r) = r := by
  match r, h with
  | [a, b], _ => rfl
theorem odsB_lines (l : List Od) : odsB l = linesB wOrder (l.map odN) := by
  induction l with
  | nil => rfl
  | cons x r ih => rw [List.map_cons, linesB, odsB, ih]; rfl
theorem rtsB_lines (l : List Rt) : rtsB l = linesB wReturn (l.map rtN) := by
  induction l with
  | nil => rfl
  | cons x r ih => rw [List.map_cons, linesB, rtsB, ih]; rfl
theorem bodyF_S (f : Fi) : bodyF f = bodyS wPAY wOrder [f.num, f.day, f.ods.length, tot f.ods] (f.ods.map odN) := by rw [bodyF, headF, bodyS, odsB_lines]
theorem bodyA_S (f : An) : bodyA f = bodyS wBACK wReturn [f.num, f.day, f.rts.length] (f.rts.map rtN) := by rw [bodyA, headA, bodyS, rtsB_lines]
theorem okOd_Gm {o : Od} (h : okOd o = true) : GoodR 5 (odN o) := by
  have := (okOd_iff o).1 h
  refine ⟨rfl, fun n hn => ?_⟩
  simp only [odN, List.mem_cons, List.not_mem_nil, or_false] at hn
  unfold Gm
  rcases hn with rfl | rfl | rfl | rfl | rfl <;> omega
theorem okRt_Gm {r : Rt} (h : okRt r = true) : GoodR 2 (rtN r) := by
  simp [okRt, okNum] at h
  refine ⟨rfl, fun n hn => ?_⟩
  simp only [rtN, List.mem_cons, List.not_mem_nil, or_false] at hn
  unfold Gm
  rcases hn with rfl | rfl <;> omega
theorem head_Gm {f : Fi} (h : okF f = true) : GoodR 4 [f.num, f.day, (f.ods.length : Int), tot f.ods] := by
  obtain ⟨h1, h2, h3, h4, h5⟩ := okF_parts h
  have h6 := (tot_bd (okTo_all h4)).1
  refine ⟨rfl, fun n hn => ?_⟩
  simp only [List.mem_cons, List.not_mem_nil, or_false] at hn
  unfold Gm
  rcases hn with rfl | rfl | rfl | rfl <;> omega
theorem headA_Gm {f : An} (h : okA f = true) : GoodR 3 [f.num, f.day, (f.rts.length : Int)] := by
  obtain ⟨h1, h2, h3, h4⟩ := okA_parts h
  refine ⟨rfl, fun n hn => ?_⟩
  simp only [List.mem_cons, List.not_mem_nil, or_false] at hn
  unfold Gm
  rcases hn with rfl | rfl | rfl <;> omega
theorem pF_mk {f : Fi} (h : okF f = true) : pF (textF f) = ([f.num, f.day, f.ods.length, tot f.ods] :: f.ods.map odN, 0) := by
  have hl := bodyF_len h
  unfold pF textF
  rw [bodyF_S] at hl ⊢
  refine parse_mk wPAY_no wOrder_no (head_Gm h) (fun r hr => ?_) (by omega)
  obtain ⟨o, ho, rfl⟩ := List.mem_map.1 hr
  exact okOd_Gm (okTo_all (okF_parts h).2.2.2.1 o ho)
theorem pA_mk {f : An} (h : okA f = true) : pA (textA f) = ([f.num, f.day, f.rts.length] :: f.rts.map rtN, 0) := by
  have hl := bodyA_len h
  unfold pA textA
  rw [bodyA_S] at hl ⊢
  refine parse_mk wBACK_no wReturn_no (headA_Gm h) (fun r hr => ?_) (by omega)
  obtain ⟨o, ho, rfl⟩ := List.mem_map.1 hr
  exact okRt_Gm (okRs_all (okA_parts h).2.2.2 o ho)
theorem map_odOf (l : List Od) : (l.map odN).map odOf = l := by
  induction l with
  | nil => rfl
  | cons x r ih => rw [List.map_cons, List.map_cons, ih, odOf_N]
theorem map_rtOf (l : List Rt) : (l.map rtN).map rtOf = l := by
  induction l with
  | nil => rfl
  | cons x r ih => rw [List.map_cons, List.map_cons, ih, rtOf_N]
theorem map_odN {l : List (List Int)} (h : ∀ r ∈ l, GoodR 5 r) : (l.map odOf).map odN = l := by
  induction l with
  | nil => rfl
  | cons x r ih => rw [List.map_cons, List.map_cons, ih fun y hy => h y (List.mem_cons_of_mem _ hy), odN_of (h x (by simp)).1]
theorem map_rtN {l : List (List Int)} (h : ∀ r ∈ l, GoodR 2 r) : (l.map rtOf).map rtN = l := by
  induction l with
  | nil => rfl
  | cons x r ih => rw [List.map_cons, List.map_cons, ih fun y hy => h y (List.mem_cons_of_mem _ hy), rtN_of (h x (by simp)).1]
theorem fiOf_mk (f : Fi) (a b : Int) : fiOf ([f.num, f.day, a, b] :: f.ods.map odN) = f := by
  unfold fiOf rowF
  simp only [List.headD_cons, List.tail_cons, map_odOf]
  rfl
theorem anOf_mk (f : An) (a : Int) : anOf ([f.num, f.day, a] :: f.rts.map rtN) = f := by
  unfold anOf rowF
  simp only [List.headD_cons, List.tail_cons, map_rtOf]
  rfl
/-- Read inverts Write. -/
theorem readF_text {f : Fi} (h : okF f = true) : readF (textF f) = (f, 0) := by
  unfold readF
  rw [pF_mk h]
  simp only [ne_eq, not_true_eq_false, if_false]
  rw [fiOf_mk, if_pos ⟨h, rfl, rfl⟩]
theorem readA_text {f : An} (h : okA f = true) : readA (textA f) = (f, 0) := by
  unfold readA
  rw [pA_mk h]
  simp only [ne_eq, not_true_eq_false, if_false]
  rw [anOf_mk, if_pos ⟨h, rfl⟩]
/-- The condition as the reference has it. -/
theorem cond_F {l : List UInt8} (h : (pF l).2 = 0) : (okF (fiOf (pF l).1) = true ∧ (rowF (pF l).1)[2]?.getD 0 = ((fiOf (pF l).1).ods.length : Int) ∧ (rowF (pF l).1)[3]?.getD 0 = tot (fiOf (pF l).1).ods) ↔
    (okF (fiOf (pF l).1) = true ∧ textF (fiOf (pF l).1) = l) := by
  obtain ⟨rows, e, hp⟩ : ∃ rows e, pF l = (rows, e) := ⟨_, _, rfl⟩
  rw [hp] at h ⊢
  dsimp only at h ⊢
  subst h
  constructor
  · rintro ⟨h1, h2, h3⟩
    refine ⟨h1, ?_⟩
    obtain ⟨r, rs, rfl, ⟨g1, _⟩, g2, hl, _⟩ := parse_some wPAY_no.1 wOrder_no.1 hp
    have e : bodyF (fiOf (r :: rs)) = bodyS wPAY wOrder r rs := by
      rw [bodyF_S, ← h2, ← h3]
      simp only [fiOf, rowF, List.headD_cons, List.tail_cons]
      rw [map_odN g2]
      match r, g1 with
      | [a, b, c, d], _ => rfl
    rw [textF, e]; exact hl.symm
  · rintro ⟨h1, h2⟩
    have h3 := pF_mk h1
    rw [h2, hp] at h3
    simp only [Prod.mk.injEq, and_true] at h3
    refine ⟨h1, ?_, ?_⟩
    · conv => lhs; rw [h3]
      rfl
    · conv => lhs; rw [h3]
      rfl
theorem cond_A {l : List UInt8} (h : (pA l).2 = 0) : (okA (anOf (pA l).1) = true ∧ (rowF (pA l).1)[2]?.getD 0 = ((anOf (pA l).1).rts.length : Int)) ↔
    (okA (anOf (pA l).1) = true ∧ textA (anOf (pA l).1) = l) := by
  obtain ⟨rows, e, hp⟩ : ∃ rows e, pA l = (rows, e) := ⟨_, _, rfl⟩
  rw [hp] at h ⊢
  dsimp only at h ⊢
  subst h
  constructor
  · rintro ⟨h1, h2⟩
    refine ⟨h1, ?_⟩
    obtain ⟨r, rs, rfl, ⟨g1, _⟩, g2, hl, _⟩ := parse_some wBACK_no.1 wReturn_no.1 hp
    have e : bodyA (anOf (r :: rs)) = bodyS wBACK wReturn r rs := by
      rw [bodyA_S, ← h2]
      simp only [anOf, rowF, List.headD_cons, List.tail_cons]
      rw [map_rtN g2]
      match r, g1 with
      | [a, b, c], _ => rfl
    rw [textA, e]; exact hl.symm
  · rintro ⟨h1, h2⟩
    have h3 := pA_mk h1
    rw [h2, hp] at h3
    simp only [Prod.mk.injEq, and_true] at h3
    refine ⟨h1, ?_⟩
    conv => lhs; rw [h3]
    rfl
theorem readF_ok {l : List UInt8} (h : (readF l).2 = 0) : okF (readF l).1 = true ∧ textF (readF l).1 = l := by
  unfold readF at h ⊢
  split at h
  · rename_i h0; exact absurd h h0
  rename_i h0
  rw [if_neg h0]
  simp only [ne_eq, Decidable.not_not] at h0
  split at h
  · rename_i hc
    rw [if_pos hc]
    exact (cond_F h0).1 hc
  · simp at h
theorem readA_ok {l : List UInt8} (h : (readA l).2 = 0) : okA (readA l).1 = true ∧ textA (readA l).1 = l := by
  unfold readA at h ⊢
  split at h
  · rename_i h0; exact absurd h h0
  rename_i h0
  rw [if_neg h0]
  simp only [ne_eq, Decidable.not_not] at h0
  split at h
  · rename_i hc
    rw [if_pos hc]
    exact (cond_A h0).1 hc
  · simp at h
theorem readF_err {l : List UInt8} (h : (readF l).2 ≠ 0) : (readF l).1 = Fi.z := by
  unfold readF at h ⊢
  split
  · rfl
  rename_i h0
  rw [if_neg h0] at h
  split
  · rename_i hc; rw [if_pos hc] at h; simp at h
  · rfl
theorem readA_err {l : List UInt8} (h : (readA l).2 ≠ 0) : (readA l).1 = An.z := by
  unfold readA at h ⊢
  split
  · rfl
  rename_i h0
  rw [if_neg h0] at h
  split
  · rename_i hc; rw [if_pos hc] at h; simp at h
  · rfl

/-- The text of a file is not that of an answer. -/
theorem parse_word {hw iw vw jw : List UInt8} (h1 : (32 : UInt8) ∉ hw ∧ (10 : UInt8) ∉ hw) (h2 : (32 : UInt8) ∉ iw ∧ (10 : UInt8) ∉ iw) (hne : hw ≠ vw) {vm jm : Nat} {r : List Int} {rs : List (List Int)}
    (hlen : (bodyS hw iw r rs).length + 22 ≤ 1048576) : parseS vw vm jw jm (bodyS hw iw r rs ++ endB (bodyS hw iw r rs)) = ([], 360) := by
  obtain ⟨hc, m, hm⟩ := cutAt_body h1.2 h2.2 r rs
  have hpos : 1 ≤ (bodyS hw iw r rs).length := by rw [hm]; simp
  have hl : (bodyS hw iw r rs ++ endB (bodyS hw iw r rs)).length = (bodyS hw iw r rs).length + 22 := by rw [List.length_append, endB_length]
  have hd : (bodyS hw iw r rs ++ endB (bodyS hw iw r rs)).drop (bodyS hw iw r rs).length = endB (bodyS hw iw r rs) := List.drop_left
  have ht1 : (bodyS hw iw r rs ++ endB (bodyS hw iw r rs)).take ((bodyS hw iw r rs).length - 1) = (bodyS hw iw r rs).dropLast := by
    rw [List.take_append_of_le_length (by omega), List.dropLast_eq_take]
  have hg : (bodyS hw iw r rs ++ endB (bodyS hw iw r rs))[(bodyS hw iw r rs).length - 1]?.getD 0 = 10 := by
    rw [List.getElem?_append_left (by omega), hm]; simp
  unfold parseS
  rw [hl, if_neg (by omega), if_neg (by omega), show (bodyS hw iw r rs).length + 22 - 22 = (bodyS hw iw r rs).length by omega, show (bodyS hw iw r rs).length + 22 - 23 = (bodyS hw iw r rs).length - 1 by omega, hd, ht1, hg, endB_form, if_neg (by simp), hc, allOf, rowOf_other (many := 0) (ns := r) h1.1 hne rfl]
theorem readA_textF {f : Fi} (h : okF f = true) : readA (textF f) = (An.z, 360) := by
  have hl := bodyF_len h
  have e : pA (textF f) = ([], 360) := by
    unfold pA textF
    rw [bodyF_S] at hl ⊢
    exact parse_word wPAY_no wOrder_no (by decide) (by omega)
  unfold readA
  rw [e, if_pos (by simp)]
theorem readF_textA {f : An} (h : okA f = true) : readF (textA f) = (Fi.z, 360) := by
  have hl := bodyA_len h
  have e : pF (textA f) = ([], 360) := by
    unfold pF textA
    rw [bodyA_S] at hl ⊢
    exact parse_word wBACK_no wReturn_no (by decide) (by omega)
  unfold readF
  rw [e, if_pos (by simp)]
end Go.Proofs.YtaccaebdmndkiaaGreatDoor
