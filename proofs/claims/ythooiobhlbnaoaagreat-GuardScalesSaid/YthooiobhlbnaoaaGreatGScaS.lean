/- Layer 16: conditions that are repeated add nothing; scales of made conditions have at least two cells, in plain Lean. No conditions. -/
import Derived.Test.YthooiobhlbnaoaaGreatGlMd
import Derived.Test.YthooiobhlbnaoaaGreatGaVal
namespace Go.Proofs.YthooiobhlbnaoaaGreat
open Go.RowKit
set_option linter.unusedVariables false

theorem inc_M {s : Sc} (h : ScM s) : s.cuts.Pairwise vlt := by
  obtain ⟨k, _, _, h1 | h1⟩ := h
  · rw [h1.2.2]; exact List.Pairwise.nil
  · exact h1.2.2.1.inc
theorem cut_half {t : Tq} (h : TqM t) (h0 : t.kd ≠ 0) : Half t.cut := by
  obtain ⟨k, hk, _, h1 | h1⟩ := h
  · exact absurd h1.2 h0
  · obtain ⟨n, hn, e⟩ := h1.2.2
    rw [e]
    exact (wV_facts (kindN k) n (kind_cut h1.1) hn).2.2.2.1
theorem has_fnd {l : List Sc} {t : Tq} (hl : LM l) (ht : TqM t) (h : Has l t) : ∃ s, l[l.findIdx t.belongs]? = some s ∧ l.findIdx t.belongs < l.length ∧ t.belongs s = true ∧ (t.kd ≠ 0 → fnd s.cuts t.cut = true) := by
  obtain ⟨s, hi, hb, hc⟩ := has_at hl h
  refine ⟨s, hi, (List.getElem?_eq_some_iff.1 hi).1, hb, fun h0 => ?_⟩
  have hs := hl.each s (List.mem_of_getElem? hi)
  exact (fnd_tw (fun c hc => (half_M hs c hc).1) (inc_M hs) (cut_half ht h0) (hc h0)).2.2
theorem addT_has {l : List Sc} {t : Tq} (hl : LM l) (ht : TqM t) (h : Has l t) : addT l t = some l := by
  obtain ⟨s, hi, hlt, hb, hf⟩ := has_fnd hl ht h
  unfold addT
  simp only
  rw [if_pos hlt]
  unfold insS
  by_cases h0 : t.kd = 0
  · rw [if_pos h0]
  · rw [if_neg h0, hi, Option.getD_some]
    unfold insC
    rw [if_pos (hf h0)]
    simp only [Option.map_some]
    congr 1
    have e : s = l[l.findIdx t.belongs] := (List.getElem?_eq_some_iff.1 hi).2.symm
    show l.set (l.findIdx t.belongs) s = l
    rw [e, List.set_getElem_self]
theorem addTs_has {l : List Sc} (hl : LM l) : ∀ ts : List Tq, (∀ t ∈ ts, TqM t ∧ Has l t) → addTs l ts = some l
  | [], _ => rfl
  | t :: r, h => by
    rw [addTs, addT_has hl (h t (List.mem_cons_self ..)).1 (h t (List.mem_cons_self ..)).2]
    exact addTs_has hl r fun x hx => h x (List.mem_cons_of_mem _ hx)
theorem no_testsE (e : Gx) : (Gx.mk 17 [] v0 [e]).tests = e.tests := by
  rw [tests_mkM, if_neg (by simp [Gx.settled, Gx.op]), if_pos (by simp [Gx.composed, Gx.op, Gx.args])]
  simp [Gx.args, testsL]
/-- A condition that is repeated adds nothing. -/
theorem scales_again {a b : Gx} {l : List Sc} (ha : Md a) (hb : Md b) (fa : fits a = true) (fb : fits b = true) (fn : fits (.mk 17 [] v0 [b]) = true) (h : scalesS [a, b] = (l, 0)) (hl : LM l) (hh : ∀ e ∈ [a, b], ∀ t ∈ e.tests, Has l (testOf t)) :
    scalesS [a, b, a, .mk 17 [] v0 [b]] = (l, 0) := by
  have e1 : addTs [] ((testsL [a, b]).map testOf) = some l := by
    unfold scalesS at h
    rw [if_pos (by simp [fa, fb])] at h
    revert h
    cases addTs [] ((testsL [a, b]).map testOf) with
    | none => intro h; cases h
    | some s => intro h; cases h; rfl
  have e2 : testsL [a, b, a, .mk 17 [] v0 [b]] = testsL [a, b] ++ (a.tests ++ b.tests) := by
    simp only [testsL, List.append_nil, no_testsE, List.append_assoc]
  unfold scalesS
  rw [if_pos (by simp [fa, fb, fn]), e2, List.map_append, addTs_append, e1]
  simp only [Option.bind_some]
  rw [addTs_has hl]
  intro t ht
  obtain ⟨x, hx, rfl⟩ := List.mem_map.1 ht
  rcases List.mem_append.1 hx with hx | hx
  · exact ⟨md_tests ha x hx, hh a (by simp) x hx⟩
  · exact ⟨md_tests hb x hx, hh b (by simp) x hx⟩
theorem testC_ok {l : List Sc} (hl : LM l) (cs : List Int) {e : Gx} (ht : TqM (testOf e)) (h : Has l (testOf e)) : (testC l cs e).2 = true := by
  obtain ⟨s, hi, hlt, hb, hf⟩ := has_fnd hl ht h
  unfold testC
  rw [if_pos hlt, hi, Option.getD_some]
  unfold testH
  split
  · rfl
  · rename_i h0
    rw [if_neg (by rw [hf h0]; simp)]
    split
    · rfl
    · split <;> rfl
theorem holdG_ok {l : List Sc} (hl : LM l) (cs : List Int) {e : Gx} (he : Md e) (h : ∀ t ∈ e.tests, Has l (testOf t)) : (holdG l cs e).2 = true := by
  have htq := md_tests he
  induction he with
  | tru => rw [holdG_eq, truG_settled, if_pos rfl]
  | sub k hk =>
    rw [tests_mkM, sub_settled, sub_composed] at h htq
    rw [holdG_eq, sub_settled, sub_composed, if_neg (by simp), if_neg (by simp)]
    exact testC_ok hl cs (htq _ (by simp)) (h _ (by simp))
  | tst x n hk hn =>
    rw [tests_mkM, tst_settled, tst_composed] at h htq
    rw [holdG_eq, tst_settled, tst_composed, if_neg (by simp), if_neg (by simp)]
    exact testC_ok hl cs (htq _ (by simp)) (h _ (by simp))
  | no a ha ih =>
    rw [no_testsE] at h htq
    rw [holdG_eq, if_neg (by simp [Gx.settled, Gx.op]), if_pos (by simp [Gx.composed, Gx.op, Gx.args])]
    simp [Gx.args, ih h htq]
  | two o a b ho ha hb i1 i2 =>
    rw [tests_mkM, if_neg (by rcases ho with rfl | rfl <;> simp [Gx.settled, Gx.op]), if_pos (by rcases ho with rfl | rfl <;> simp [Gx.composed, Gx.op, Gx.args])] at h htq
    simp only [Gx.args, testsL, List.append_nil, List.mem_append] at h htq
    rw [holdG_eq, if_neg (by rcases ho with rfl | rfl <;> simp [Gx.settled, Gx.op]), if_pos (by rcases ho with rfl | rfl <;> simp [Gx.composed, Gx.op, Gx.args])]
    simp [Gx.args, i1 (fun t ht => h t (.inl ht)) (fun t ht => htq t (.inl ht)), i2 (fun t ht => h t (.inr ht)) (fun t ht => htq t (.inr ht))]
  | ite a b c ha hb hc i1 i2 i3 =>
    rw [tests_mkM, if_neg (by simp [Gx.settled, Gx.op]), if_pos (by simp [Gx.composed, Gx.op, Gx.args])] at h htq
    simp only [Gx.args, testsL, List.append_nil, List.mem_append] at h htq
    rw [holdG_eq, if_neg (by simp [Gx.settled, Gx.op]), if_pos (by simp [Gx.composed, Gx.op, Gx.args])]
    simp [Gx.args, i1 (fun t ht => h t (.inl ht)) (fun t ht => htq t (.inl ht)), i2 (fun t ht => h t (.inr (.inl ht))) (fun t ht => htq t (.inr (.inl ht))), i3 (fun t ht => h t (.inr (.inr ht))) (fun t ht => htq t (.inr (.inr ht)))]
/-- A made condition holds or does not hold in possible cells, without an error. -/
theorem holds_ok {l : List Sc} (hl : LM l) (hf : Full l) {cs : List Int} (hlen : cs.length = l.length) (hcs : ∀ i, i < l.length → ∃ c : Nat, c ∈ cellsS (l[i]?.getD default) ∧ cs[i]? = some (c : Int)) {e : Gx} (he : Md e) (h : ∀ t ∈ e.tests, Has l (testOf t)) (hfit : fits e = true) :
    holdsS e l cs = ((holdG l cs e).1, 0) := by
  unfold holdsS
  rw [if_neg (by rw [hfit]; simp [hlen]), if_neg, if_neg (by rw [holdG_ok hl cs he h]; simp)]
  intro ha
  obtain ⟨i, hi, hb⟩ := List.any_eq_true.1 ha
  have hi' := List.mem_range.1 hi
  obtain ⟨c, hc, hci⟩ := hcs i hi'
  have hg : l[i]?.getD default ∈ l := by rw [List.getElem?_eq_getElem hi', Option.getD_some]; exact List.getElem_mem hi'
  have hok := okB_M (hl.each _ hg) (hf _ hg)
  unfold cellsS at hc
  rw [if_pos hok] at hc
  have hlt : c < cntN (l[i]?.getD default).kd (l[i]?.getD default).cuts.length := by
    unfold possL at hc
    exact List.mem_range.1 (List.mem_filter.1 hc).1
  unfold cellB at hb
  rw [hci, Option.getD_some, hok] at hb
  simp only [Bool.true_and, Bool.not_eq_true', Bool.and_eq_false_iff, decide_eq_false_iff_not] at hb
  omega
theorem cells_two {s : Sc} (hs : ScM s) (hf : s.kd ≠ 0 → s.cuts ≠ []) : 2 ≤ (cellsS s).length := by
  have hok := okB_M hs hf
  obtain ⟨k, hk, e, h1 | h1⟩ := hs
  · obtain ⟨se, skd, scuts⟩ := s
    obtain ⟨_, h2, h3⟩ := h1
    dsimp only at h2 h3
    subst h2 h3
    unfold cellsS
    rw [if_pos hok]
    show 2 ≤ ((List.range 2).filter fun c : Nat => Sc.poss ⟨se, 0, []⟩ (c : Int)).length
    have e0 : Sc.poss ⟨se, 0, []⟩ ((0 : Nat) : Int) = true := by simp [Sc.poss, cntN, possN, isDay]
    have e1 : Sc.poss ⟨se, 0, []⟩ ((1 : Nat) : Int) = true := by simp [Sc.poss, cntN, possN, isDay]
    rw [show List.range 2 = [0, 1] from rfl, List.filter_cons_of_pos (p := fun c : Nat => Sc.poss ⟨se, 0, []⟩ (c : Int)) e0, List.filter_cons_of_pos (p := fun c : Nat => Sc.poss ⟨se, 0, []⟩ (c : Int)) e1]
    simp
  · obtain ⟨h1, h2, h3, h4⟩ := h1
    have hkr := kind_cut h1
    have h0 : s.kd ≠ 0 := by omega
    have hn : 1 ≤ s.cuts.length := by
      have := hf h0
      cases hc : s.cuts with
      | nil => exact absurd hc this
      | cons a b => simp
    have hcnt : cntN s.kd s.cuts.length = 2 * s.cuts.length + 1 := by unfold cntN; rw [if_neg h0]
    have p1 : s.poss ((1 : Nat) : Int) = true := by
      unfold Sc.poss
      rw [hcnt]
      have : possN s.kd s.cuts ((1 : Nat) : Int).toNat = true := by unfold possN; simp
      rw [this]
      simp only [Bool.and_true, Bool.and_eq_true, decide_eq_true_eq]
      omega
    have p2 : s.poss ((2 * s.cuts.length : Nat) : Int) = true := by
      unfold Sc.poss
      rw [hcnt]
      have hp : possN s.kd s.cuts (((2 * s.cuts.length : Nat) : Int)).toNat = true := by
        unfold possN
        rw [show (((2 * s.cuts.length : Nat) : Int)).toNat = 2 * s.cuts.length by omega]
        have hlast : (s.cuts[s.cuts.length - 1]?.getD v0).i ≤ 8 := by
          rw [List.getElem?_eq_getElem (by omega), Option.getD_some]
          obtain ⟨m, hm, he⟩ := h4 _ (List.getElem_mem (by omega : s.cuts.length - 1 < s.cuts.length))
          rw [he]
          unfold wV
          split
          · show (0 : Int) ≤ 8; omega
          · show ((m : Nat) : Int) ≤ 8; omega
        have hhi : 65536 ≤ hiS s.kd s.cuts (2 * s.cuts.length) := by
          unfold hiS
          rw [if_neg (by omega)]
          split <;> omega
        have hlo : loS s.kd s.cuts (2 * s.cuts.length) ≤ 8 := by
          unfold loS
          rw [if_pos (by omega), show 2 * s.cuts.length / 2 - 1 = s.cuts.length - 1 by omega]
          exact hlast
        simp only [Bool.or_eq_true, decide_eq_true_eq]
        exact .inr (by omega)
      rw [hp]
      simp only [Bool.and_true, Bool.and_eq_true, decide_eq_true_eq]
      omega
    have := List.Nodup.length_le_of_subset (l₁ := [1, 2 * s.cuts.length]) (l₂ := cellsS s) (by simp; omega) (fun c hc => by
      unfold cellsS
      rw [if_pos hok]
      unfold possL
      simp only [List.mem_cons, List.not_mem_nil, or_false] at hc
      rcases hc with rfl | rfl
      · exact List.mem_filter.2 ⟨List.mem_range.2 (by omega), p1⟩
      · exact List.mem_filter.2 ⟨List.mem_range.2 (by omega), p2⟩)
    simpa using this
/-- Scales of made conditions have different subjects. -/
theorem names_M {l : List Sc} (hl : LM l) {i k : Nat} (hi : i < l.length) (hk : k < i) : (l[k]?.getD default).e.op = 5 ∧ (l[i]?.getD default).e.op = 5 ∧ (l[k]?.getD default).e.nm ≠ (l[i]?.getD default).e.nm := by
  have hkl : k < l.length := by omega
  rw [List.getElem?_eq_getElem hi, List.getElem?_eq_getElem hkl, Option.getD_some, Option.getD_some]
  obtain ⟨a, ha, ea, _⟩ := hl.each _ (List.getElem_mem hkl)
  obtain ⟨b, hb, eb, _⟩ := hl.each _ (List.getElem_mem hi)
  have hne := List.pairwise_iff_getElem.1 hl.nodup k i (by simpa using hkl) (by simpa using hi) hk
  rw [List.getElem_map, List.getElem_map, ea, eb] at hne
  rw [ea, eb]
  refine ⟨rfl, rfl, fun e => hne ?_⟩
  have e2 : UInt8.ofNat (48 + a % 12) = UInt8.ofNat (48 + b % 12) := by
    have e1 : ([115, UInt8.ofNat (48 + a % 12)] : Str) = [115, UInt8.ofNat (48 + b % 12)] := e
    injection e1 with _ e1; injection e1
  unfold subG
  rw [e2]
end Go.Proofs.YthooiobhlbnaoaaGreat
