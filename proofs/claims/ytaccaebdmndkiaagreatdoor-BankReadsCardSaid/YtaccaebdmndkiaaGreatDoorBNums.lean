/- Package bank: numbers: a line with a word and as many numbers as there are pointers. No conditions beyond those stated. -/
import Derived.Test.YtaccaebdmndkiaaGreatDoorBNum
namespace Go.Proofs.YtaccaebdmndkiaaGreatDoor
open Go.RowKit
set_option linter.unusedVariables false

theorem idx_none {c : UInt8} {l : List UInt8} (h : c ∉ l) : Lib.index l [c] = -1 := by
  induction l with
  | nil => rfl
  | cons b r ih =>
    simp only [List.mem_cons, not_or] at h
    rw [Lib.index, if_neg (by simp [h.1]), if_pos (by rw [ih h.2]; rfl)]
theorem idx_hit {c : UInt8} {p : List UInt8} (h : c ∉ p) (r : List UInt8) : Lib.index (p ++ c :: r) [c] = p.length := by
  induction p with
  | nil => rw [List.nil_append, Lib.index, if_pos (by simp)]; rfl
  | cons b q ih =>
    simp only [List.mem_cons, not_or] at h
    rw [List.cons_append, Lib.index, if_neg (by simp [h.1]), ih h.2, if_neg (by simp)]
    simp
theorem splitK_cutAt (c : UInt8) : ∀ (n : Nat) (l : List UInt8), l.length ≤ n → Lib.splitK [c] 0 (Lib.count l [c]) l = cutAt c l := by
  intro n
  induction n with
  | zero =>
    intro l hl
    obtain rfl : l = [] := List.eq_nil_of_length_eq_zero (by omega)
    rfl
  | succ n ih =>
    intro l hl
    rcases split_first c l with h | ⟨p, r, rfl, h⟩
    · rw [Lib.count_miss (idx_none h), cutAt_none h]; rfl
    · have hi := idx_hit h r
      rw [Lib.count_hit (by simp) hi, Nat.add_comm, Lib.splitK, if_neg (by rw [hi]; simp), hi, cutAt_hit h]
      have e : ((p.length : Int).toNat + [c].length) = p.length + 1 := by simp
      have e2 : (p ++ c :: r).drop (p.length + 1) = r := by rw [List.drop_append, List.drop_eq_nil_of_le (by omega)]; simp
      have e3 : (p ++ c :: r).take ((p.length : Int).toNat + 0) = p := by simp
      rw [e, e3, e2, show p.length + [c].length = p.length + 1 from rfl, e2, ih r (by simp at hl; omega)]
/-- strings.Split at one byte. -/
theorem split_words (s : ByteArray) (c : UInt8) : (Lib.splitB ⟨#[c]⟩ 0 (Lib.countB s ⟨#[c]⟩) s).map (·.data.toList) = cutAt c s.data.toList := by
  rw [Lib.splitB_data]
  exact splitK_cutAt c _ _ (Nat.le_refl _)
theorem split_len (s : ByteArray) (c : UInt8) : (Lib.splitB ⟨#[c]⟩ 0 (Lib.countB s ⟨#[c]⟩) s).length = Lib.countB s ⟨#[c]⟩ + 1 := by
  exact Lib.splitB_all ⟨#[c]⟩ (Nat.le_refl 1) 0 _ s rfl

/-- The library's variable that Index looks at. -/
def MaxI (B : Nat) (w : World) : Prop := 1 < B ∧ ∃ m, w.cell? ⟨1, 0, none⟩ = some (.int .i64 m)
theorem MaxI.on {B : Nat} {w w' : World} (h : MaxI B w) (hb : Below B w w') : MaxI B w' := by
  obtain ⟨h1, m, h2⟩ := h
  exact ⟨h1, m, (hb.cell (p := ⟨1, 0, none⟩) h1).trans h2⟩
theorem MaxI.up {B C : Nat} {w w' : World} (h : MaxI B w) (hb : Below B w w') (hC : B ≤ C) : MaxI C w' := by
  obtain ⟨h1, m, h2⟩ := h.on hb
  exact ⟨by omega, m, h2⟩

/-- What the numbers are stored into: ps are the places; Inv tells what is laid when so many are. -/
structure Places (Inv : List Int → World → Prop) (ps : List (Nat × Nat)) (b : Nat) : Prop where
  low : ∀ p ∈ ps, p.1 < b
  cell : ∀ ns W, Inv ns W → ns.length < ps.length → (∃ x, W.cell? ⟨(ps[ns.length]?.getD (0, 0)).1, (ps[ns.length]?.getD (0, 0)).2, none⟩ = some (.int .i64 x)) ∧ W.frozen? ⟨(ps[ns.length]?.getD (0, 0)).1, (ps[ns.length]?.getD (0, 0)).2, none⟩ = false
  set : ∀ ns n W, Inv ns W → ns.length < ps.length → Inv (ns ++ [n]) (W.setCell ⟨(ps[ns.length]?.getD (0, 0)).1, (ps[ns.length]?.getD (0, 0)).2, none⟩ (.int .i64 n))

def ptrs (ps : List (Nat × Nat)) : Array Value := (ps.map fun p => Value.pointer (some ⟨p.1, p.2, none⟩)).toArray

theorem numsOf_take {ws : List (List UInt8)} {k : Nat} {ns : List Int} (hk : k < ws.length) (h : numsOf (ws.take k) = some ns) {n : Int} (hn : numOf (ws[k]?.getD []) = some n) : numsOf (ws.take (k + 1)) = some (ns ++ [n]) := by
  induction ws generalizing k ns with
  | nil => simp at hk
  | cons w r ih =>
    cases k with
    | zero =>
      simp only [List.take_zero, numsOf, Option.some.injEq] at h
      subst h
      simp only [List.getElem?_cons_zero, Option.getD_some] at hn
      simp [numsOf, hn]
    | succ k =>
      rw [List.take_succ_cons, numsOf] at h ⊢
      cases hw : numOf w with
      | none => rw [hw] at h; cases h
      | some x =>
        rw [hw] at h
        simp only at h ⊢
        cases hr : numsOf (r.take k) with
        | none => rw [hr] at h; cases h
        | some ms =>
          rw [hr] at h
          simp only [Option.some.injEq] at h
          subst h
          rw [ih (by simpa using hk) hr (by simpa using hn)]
          rfl
theorem numsOf_bad {ws : List (List UInt8)} {k : Nat} (hk : k < ws.length) (hn : numOf (ws[k]?.getD []) = none) : numsOf ws = none := by
  induction ws generalizing k with
  | nil => simp at hk
  | cons w r ih =>
    rw [numsOf]
    cases k with
    | zero =>
      simp only [List.getElem?_cons_zero, Option.getD_some] at hn
      rw [hn]
    | succ k =>
      rw [ih (by simpa using hk) (by simpa using hn)]
      cases numOf w <;> rfl
theorem numsOf_len {ws : List (List UInt8)} {ns : List Int} (h : numsOf ws = some ns) : ns.length = ws.length := by
  rw [(numsOf_some h).1]; simp

theorem cutAt_le {c : UInt8} (l : List UInt8) : ∀ p ∈ cutAt c l, p.length ≤ l.length := by
  induction l with
  | nil => simp [cutAt]
  | cons b r ih =>
    rw [cutAt]
    split
    · intro p hp
      rcases List.mem_cons.1 hp with rfl | hp
      · simp
      · have := ih p hp; simp only [List.length_cons]; omega
    · cases h : cutAt c r with
      | nil => exact absurd h (cutAt_ne c r)
      | cons x y =>
        rw [h] at ih
        intro p hp
        simp only [List.headD_cons, List.tail_cons, List.mem_cons] at hp
        rcases hp with rfl | hp
        · have := ih x (by simp); simp only [List.length_cons]; omega
        · have := ih p (by simp [hp]); simp only [List.length_cons]; omega
/-- How numbers ends. -/
def NumsEnd (Inv : List Int → World → Prop) (B : Nat) (w : World) (r : Option (List Int)) (e : Ending) (w' : World) : Prop :=
  e = .returned (.bool r.isSome) ∧ (∃ ns, Inv ns w') ∧ (∀ ns, r = some ns → Inv ns w') ∧ Below B w w'
theorem ptrs_at {ps : List (Nat × Nat)} {k : Nat} (h : k < ps.length) : (ptrs ps)[k]? = some (.pointer (some ⟨(ps[k]?.getD (0, 0)).1, (ps[k]?.getD (0, 0)).2, none⟩)) := by
  unfold ptrs
  rw [List.getElem?_toArray, List.getElem?_map, List.getElem?_eq_getElem h]; rfl
theorem words_at {ws : List ByteArray} {k : Nat} (h : k < ws.length) : ((ws.map Value.string).toArray)[k]? = some (.string (ws[k]?.getD ByteArray.empty)) := by
  rw [List.getElem?_toArray, List.getElem?_map, List.getElem?_eq_getElem h]; rfl

set_option maxRecDepth 100000 in
set_option maxHeartbeats 1000000 in
theorem numbers_any (Inv : List Int → World → Prop) (s word : ByteArray) (ps : List (Nat × Nat)) (t b K : Nat) (w : World) (hs : s.size ≤ 2 ^ 30) (hq : Blk w b (ptrs ps) t) (hp : Places Inv ps b) (hI0 : ∀ W, Below w.heap.size w W → Inv [] W) (hps : ps.length ≤ 1000)
    (hlow : ∀ p ∈ ps, K ≤ p.1) (hKw : K ≤ w.heap.size) (hM : MaxI w.heap.size w) :
    Calls Tryz.prog 41 #[.string s, .string word, .slice (some ⟨b, 0, none⟩) ps.length ps.length] w (NumsEnd Inv K w (rowOf word.data.toList ps.length s.data.toList)) := by
  obtain ⟨hm0, m, hm⟩ := hM
  have hc := Tryz.strings_Split s ⟨#[32]⟩ m w (by omega) hm (by decide)
  have hwm := split_words s 32
  have hwl := split_len s 32
  obtain ⟨ws, hws⟩ : ∃ ws, Lib.splitB ⟨#[32]⟩ 0 (Lib.countB s ⟨#[32]⟩) s = ws := ⟨_, rfl⟩
  obtain ⟨N, hN⟩ : ∃ N, Lib.countB s ⟨#[32]⟩ + 1 = N := ⟨_, rfl⟩
  rw [hws] at hc hwm hwl
  rw [hN] at hc hwl
  clear hws hN
  have HWM := Lib.hid hwm
  clear hwm
  go_enter Tryz.func41, Tryz.ntmps41
  go_wp2_with fail
  refine hc.mono ?_
  rintro e w1 ⟨rfl, hw1⟩
  have q1 : Blk w1 w.heap.size (ws.map Value.string).toArray 9 := hw1 ▸ Blk.new w _ _
  have hb1 : Below w.heap.size w w1 := hw1 ▸ (Below.refl _ w).alloc (Nat.le_refl _) _
  have qb : Blk w1 b (ptrs ps) t := hq.below hb1 hq.lt
  have hI1 := hI0 w1 hb1
  have hbw := hq.lt
  clear hw1 hc hI0 hm
  have hb1 : Below K w w1 := hb1.mono hKw
  have hl30 := size_of (s := s) rfl
  have hwk : ∀ k, k < N → (ws[k]?.getD ByteArray.empty).data.toList = (cutAt 32 s.data.toList)[k]?.getD [] := by
    intro k hk
    rw [← HWM.out, List.getElem?_map, List.getElem?_eq_getElem (by omega)]; rfl
  have HWK := Lib.hid hwk
  have hcl : (cutAt 32 s.data.toList).length = N := by rw [← HWM.out, List.length_map, hwl]
  have HCL := Lib.hid hcl
  have HI1 := Lib.hid hI1
  clear hwk hcl hI1
  have hN1 : 1 ≤ N := by have := HCL.out; have h := cutAt_ne 32 s.data.toList; cases hh : cutAt 32 s.data.toList with | nil => exact absurd hh h | cons x y => rw [hh] at this; simp at this; omega
  have hbad : rowOf word.data.toList ps.length s.data.toList = none → ∀ ns W, Inv ns W → Below K w W → NumsEnd Inv K w (rowOf word.data.toList ps.length s.data.toList) (.returned (.bool false)) W := by
    intro h ns W h1 h2
    rw [h]; exact ⟨rfl, ⟨ns, h1⟩, (fun _ h => nomatch h), h2⟩
  have HB := Lib.hid hbad
  clear hbad
  have hw0 := q1.at (words_at (ws := ws) (k := 0) (by omega))
  by_cases hN : N = ps.length + 1
  case neg =>
    have hr : rowOf word.data.toList ps.length s.data.toList = none := by
      rw [rowOf, if_neg]; rintro ⟨h, _⟩; exact hN (HCL.out.symm.trans h)
    have HR := Lib.hid hr
    have hne : (((N : Nat) : Int) != ((ps.length : Nat) : Int) + 1) = true := by rw [bne_iff_ne]; omega
    clear hr
    go_wp2_with fail
    go_ret
    exact HB.out HR.out _ _ HI1.out hb1
  case pos =>
    have hne : (((N : Nat) : Int) != ((ps.length : Nat) : Int) + 1) = false := by rw [bne_eq_false_iff_eq]; omega
    obtain ⟨w0, hw0e⟩ : ∃ w0, ws[0]?.getD ByteArray.empty = w0 := ⟨_, rfl⟩
    rw [hw0e] at hw0
    have h0d := HWK.out 0 (by omega)
    rw [hw0e] at h0d
    have H0D := Lib.hid h0d
    clear hw0e h0d
    have hlw : w0.toList = w0.data.toList := Lib.toList_data w0
    have hlv : word.toList = word.data.toList := Lib.toList_data word
    by_cases hword : w0.data.toList = word.data.toList
    case neg =>
      have hr : rowOf word.data.toList ps.length s.data.toList = none := by
        rw [rowOf, if_neg]
        rintro ⟨_, h⟩
        refine hword ?_
        rw [H0D.out, ← h]
        cases cutAt 32 s.data.toList <;> rfl
      have HR := Lib.hid hr
      have hne2 : (!w0.toList == word.toList) = true := by rw [hlw, hlv]; simpa using hword
      clear hr hlw hlv hword
      go_wp2_with fail
      go_ret
      exact HB.out HR.out _ _ HI1.out hb1
    case pos =>
      have hne2 : (!w0.toList == word.toList) = false := by rw [hlw, hlv, hword]; simp
      have hrow : rowOf word.data.toList ps.length s.data.toList = numsOf (cutAt 32 s.data.toList).tail := by
        have hh : (cutAt 32 s.data.toList).headD [] = word.data.toList := by
          rw [← hword, H0D.out]
          cases cutAt 32 s.data.toList <;> rfl
        rw [rowOf, if_pos ⟨HCL.out.trans hN, hh⟩]
      have HROW := Lib.hid hrow
      have htl : (cutAt 32 s.data.toList).tail.length = ps.length := by rw [List.length_tail, HCL.out]; omega
      have HTL := Lib.hid htl
      have htk : ∀ k, k < ps.length → (ws[k + 1]?.getD ByteArray.empty).data.toList = (cutAt 32 s.data.toList).tail[k]?.getD [] := by
        intro k hk
        rw [HWK.out (k + 1) (by omega)]
        cases cutAt 32 s.data.toList <;> simp
      have HTK := Lib.hid htk
      have hsm : ∀ k, k < ps.length → (ws[k + 1]?.getD ByteArray.empty).size ≤ 2 ^ 40 := by
        intro k hk
        rw [size_of (HWK.out (k + 1) (by omega))]
        have := cutAt_le (c := 32) s.data.toList _ (getD_mem (show k + 1 < (cutAt 32 s.data.toList).length by rw [HCL.out]; omega) [])
        omega
      have HSM := Lib.hid hsm
      clear hlw hlv hword hrow htl htk hsm hne
      have hne : (((N : Nat) : Int) != ((ps.length : Nat) : Int) + 1) = false := by rw [bne_eq_false_iff_eq]; omega
      go_wp2_with fail
      clear hw0 hne hne2
      go_loopw [29] (fun i wr => ∃ k : Nat, k ≤ ps.length ∧ i = .int .i64 k ∧ ∃ ns, Hid (numsOf ((cutAt 32 s.data.toList).tail.take k) = some ns) ∧ Inv ns wr ∧ Hid (ns.length = k) ∧ Below K w wr ∧ Blk wr b (ptrs ps) t ∧ Blk wr w.heap.size (ws.map Value.string).toArray 9) (fun i _ => ps.length - (intOf i).toNat)
      case atStart => exact ⟨0, Nat.zero_le _, rfl, [], Lib.hid rfl, HI1.out, Lib.hid rfl, hb1, qb, q1⟩
      case round =>
        obtain ⟨k, hk, rfl, ns, HNS, hI, HLN, hbr, qbr, qwr⟩ := hrel
        by_cases hlt : k < ps.length
        · have c1 := qbr.at (ptrs_at hlt)
          have c2 := qwr.at (words_at (ws := ws) (k := k + 1) (by omega))
          have hmem : ps[k]?.getD (0, 0) ∈ ps := getD_mem hlt (0, 0)
          have hpl := hp.low _ hmem
          have hpk := hlow _ hmem
          have hset := fun n => hp.set ns n wr hI (by rw [HLN.out]; exact hlt)
          obtain ⟨⟨x, hx⟩, hf⟩ := hp.cell ns wr hI (by rw [HLN.out]; exact hlt)
          rw [HLN.out] at hset hx hf
          obtain ⟨pp, hpp⟩ : ∃ pp, ps[k]?.getD (0, 0) = pp := ⟨_, rfl⟩
          rw [hpp] at c1 hset hx hf hpl hpk
          obtain ⟨pb, po⟩ := pp
          dsimp only at c1 hset hx hf hpl hpk
          obtain ⟨wd, hwd⟩ : ∃ wd, ws[k + 1]?.getD ByteArray.empty = wd := ⟨_, rfl⟩
          have hnum := number_any wd wr (by rw [← hwd]; exact HSM.out k hlt)
          have hwdl := HTK.out k hlt
          rw [hwd] at c2 hwdl
          have HWD := Lib.hid hwdl
          have HSET := Lib.hid hset
          have HI := Lib.hid hI
          clear hwd hpp hwdl hset hI
          cases hno : numOf wd.data.toList with
          | none =>
            rw [hno] at hnum
            have hr : rowOf word.data.toList ps.length s.data.toList = none := by
              rw [HROW.out]
              exact numsOf_bad (k := k) (by rw [HTL.out]; exact hlt) (by rw [← HWD.out]; exact hno)
            have HR := Lib.hid hr
            clear hr hno
            go_wp2_with fail
            refine hnum.mono ?_
            rintro e w2 ⟨rfl, rfl⟩
            clear hnum
            go_wp2_with fail
            go_ret
            exact HB.out HR.out _ _ HI.out hbr
          | some n =>
            rw [hno] at hnum
            have hns := numsOf_take (ws := (cutAt 32 s.data.toList).tail) (k := k) (by rw [HTL.out]; exact hlt) HNS.out (n := n) (by rw [← HWD.out]; exact hno)
            have HNS2 := Lib.hid hns
            clear hns hno
            go_wp2_with fail
            refine hnum.mono ?_
            rintro e w2 ⟨rfl, rfl⟩
            clear hnum
            go_wp2_with fail
            refine ⟨⟨k + 1, by omega, by go_num, _, Lib.hid HNS2.out, HSET.out n, Lib.hid (by rw [List.length_append, HLN.out]; rfl), hbr.setCell (p := ⟨pb, po, none⟩) hpk _, qbr.other (by omega) _, qwr.other (by omega) _⟩, by simp [intOf]; omega⟩
        · obtain rfl : k = ps.length := by omega
          have hr : rowOf word.data.toList ps.length s.data.toList = some ns := by
            rw [HROW.out, ← HNS.out, List.take_of_length_le (by rw [HTL.out]; omega)]
          have HR := Lib.hid hr
          have HI := Lib.hid hI
          clear hr hI
          go_wp2_with fail
          go_ret
          refine ⟨by rw [HR.out]; rfl, ⟨_, HI.out⟩, fun ms h => ?_, hbr⟩
          rw [HR.out] at h
          cases h
          exact HI.out
end Go.Proofs.YtaccaebdmndkiaaGreatDoor
