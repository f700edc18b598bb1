/- Package order: the closure of Reach. No conditions beyond the readings of the arguments. -/
import Derived.Test.YthbnbjigmgoldaaOOrder
namespace Go.Proofs.Ythbnbjigmgoldaa
open Go.RowKit
set_option linter.unusedVariables false

theorem fN_at (g : Nat → Option Value) (n : Nat) (h : n ≤ 2 ^ 62) : fN g (.int .i64 n) = g n := by
  show (if 0 ≤ (n : Int) ∧ (n : Int) ≤ 2 ^ 62 then g (n : Int).toNat else none) = g n
  rw [if_pos ⟨by omega, by omega⟩]
  rfl
/-- Reach's memory: the set of the numbers that have been reached, their list. -/
structure Rd (base A R Mb : Nat) (sm acc : List Nat) (av : Value) (B0 : Nat) (w W : World) : Prop where
  map : MapIs W 3 Mb sm.length (fN (inSet sm))
  rbox : Blk W R #[.map (some Mb)] 77
  abox : Blk W A #[av] 68
  own : OwnN base W av acc
  bel : Below B0 w W
  big : base ≤ W.heap.size
  b1 : Mb < base
  b2 : R < base
  b3 : A < base
  b4 : B0 ≤ Mb
  b5 : B0 ≤ R
  b6 : B0 ≤ A
  n1 : Mb ≠ R
  n2 : Mb ≠ A
  n3 : R ≠ A
section
variable {base A R Mb : Nat} {sm acc : List Nat} {av : Value} {B0 : Nat} {w W W' : World}
theorem Rd.old (h : Rd base A R Mb sm acc av B0 w W) (hb : Below W.heap.size W W') : Rd base A R Mb sm acc av B0 w W' where
  map := h.map.below hb h.map.lt
  rbox := h.rbox.below hb h.rbox.lt
  abox := h.abox.below hb h.abox.lt
  own := h.own.old hb (Nat.le_refl _)
  bel := h.bel.trans (hb.mono (by have := h.big; have := h.b1; have := h.b4; omega))
  big := Nat.le_trans h.big hb.size
  b1 := h.b1
  b2 := h.b2
  b3 := h.b3
  b4 := h.b4
  b5 := h.b5
  b6 := h.b6
  n1 := h.n1
  n2 := h.n2
  n3 := h.n3
theorem Rd.put (h : Rd base A R Mb sm acc av B0 w W) {sm' : List Nat} (hg : W.grownBy W' (some Mb)) (hm : MapIs W' 3 Mb sm'.length (fN (inSet sm'))) : Rd base A R Mb sm' acc av B0 w W' :=
  { h with
    map := hm
    rbox := h.rbox.kept hg (by have := h.n1; simp; omega)
    abox := h.abox.kept hg (by have := h.n2; simp; omega)
    own := h.own.kept hg (h.own.ne h.b1)
    bel := h.bel.trans (below_grown hg (fun k e => by cases e; exact h.b4) (by have := h.big; have := h.b1; have := h.b4; omega))
    big := Nat.le_trans h.big hg.size }
theorem Rd.push (h : Rd base A R Mb sm acc av B0 w W) {g m c : Nat} {acc' : List Nat} (hg : W.grownBy W' av.ownBlock) (ho : OwnN base W' (.slice (some ⟨g, 0, none⟩) m c) acc') :
    Rd base A R Mb sm acc' (.slice (some ⟨g, 0, none⟩) m c) B0 w (W'.setCell ⟨A, 0, none⟩ (.slice (some ⟨g, 0, none⟩) m c)) := by
  have hb : ∀ r, av.ownBlock = some r → base ≤ r := fun r hr => (ownsRow_cells h.own hr).1
  have hg2 := grownBy_setCell W' A 0 (.slice (some ⟨g, 0, none⟩) m c)
  exact { h with
    map := (h.map.kept hg (fun e => by have := hb _ e.symm; have := h.b1; omega)).kept hg2 (by have := h.n2; simp; omega)
    rbox := (h.rbox.kept hg (fun e => by have := hb _ e.symm; have := h.b2; omega)).other h.n3 _
    abox := (h.abox.kept hg (fun e => by have := hb _ e.symm; have := h.b3; omega)).set _
    own := ho.kept hg2 (ho.ne h.b3)
    bel := (h.bel.trans (below_grown hg (fun r e => by have := hb r e; have := h.b3; have := h.b6; omega) (by have := h.big; have := h.b3; have := h.b6; omega))).setCell (p := ⟨A, 0, none⟩) h.b6 _
    big := Nat.le_trans h.big (Nat.le_trans hg.size hg2.size) }
theorem Rd.look (h : Rd base A R Mb sm acc av B0 w W) (z : Nat) (hz : z ≤ 2 ^ 62) : (Instr.lookup 77 (.map (some Mb)) (.int .i64 z) false).run Try.prog W = .ok (.bool (sm.contains z)) W := by
  have := h.map.look (t := 77) keyN Try.underlying77 (Try.zeroValue4 _) (keyOf_Z z hz)
  rw [this, fN_at _ _ hz, inSet_get]
end

set_option maxRecDepth 100000 in
set_option maxHeartbeats 1000000 in
theorem add_any (K base A R Mb B0 : Nat) (v : Value) (l acc0 : List Nat) (av0 : Value) (w w0 : World) (h0 : Rd base A R Mb acc0 acc0 av0 B0 w0 w) (hv : Nats K w v l) (hK : K ≤ B0) (hl : ∀ i ∈ l, i ≤ 2 ^ 62) (hbig : acc0.length + l.length ≤ 2 ^ 39) :
    Calls Try.prog 38 #[v, .pointer (some ⟨R, 0, none⟩), .pointer (some ⟨A, 0, none⟩)] w fun e w' => e = .returned (.tuple #[]) ∧ ∃ av', Rd base A R Mb (l.foldl addS acc0) (l.foldl addS acc0) av' B0 w0 w' := by
  obtain ⟨va, vcap, rfl, hv1, hv2⟩ := id hv.form
  unfold maxLen at hv2
  have hbw : Below B0 w0 w := h0.bel
  have HBW := Lib.hid hbw
  clear hbw
  go_enter Try.func38, Try.ntmps38
  go_wp2_with fail
  go_loopw [8] (fun i wr => ∃ (k : Nat) (av : Value), k ≤ l.length ∧ i = .int .i64 k ∧ Rd base A R Mb ((l.take k).foldl addS acc0) ((l.take k).foldl addS acc0) av B0 w0 wr) (fun i _ => l.length - (intOf i).toNat)
  case atStart => exact ⟨0, av0, Nat.zero_le _, rfl, h0⟩
  case round =>
    obtain ⟨k, av, hk, rfl, hr⟩ := hrel
    by_cases hlt : k < l.length
    · obtain ⟨b, o, cap, he, _, _, hbK, hc⟩ := hv.pos (by omega)
      simp only [Value.slice.injEq, true_and] at he
      obtain ⟨rfl, rfl⟩ := he
      have c0 := (hr.bel.cell (p := ⟨b, o + k, none⟩) (Nat.lt_of_lt_of_le hbK hK)).trans ((HBW.out.cell (p := ⟨b, o + k, none⟩) (Nat.lt_of_lt_of_le hbK hK)).symm.trans (hc k hlt))
      have hts := take_nat l k hlt
      have hzl : l[k]?.getD 0 ≤ 2 ^ 62 := hl _ (by rw [List.getElem?_eq_getElem hlt]; exact List.getElem_mem hlt)
      obtain ⟨z, hz⟩ : ∃ z, l[k]?.getD 0 = z := ⟨_, rfl⟩
      rw [hz] at c0 hts hzl
      have c0 : wr.cell? ⟨b, o + k, none⟩ = some (.int .i64 (z : Int)) := c0
      have hal : ((l.take k).foldl addS acc0).length ≤ acc0.length + k := by
        have h1 : ∀ (m a : List Nat), (m.foldl addS a).length ≤ a.length + m.length := by
          intro m
          induction m with
          | nil => simp
          | cons x r ih =>
            intro a
            have h2 := ih (addS a x)
            have h3 : (addS a x).length ≤ a.length + 1 := by unfold addS; split <;> simp
            simp only [List.foldl_cons, List.length_cons]; omega
        have := h1 (l.take k) acc0
        rw [List.length_take] at this
        omega
      have hs1 : Hid ((l.take (k + 1)).foldl addS acc0 = addS ((l.take k).foldl addS acc0) z) := Lib.hid (by rw [hts, List.foldl_append]; rfl)
      obtain ⟨acc, hacc⟩ : ∃ acc, (l.take k).foldl addS acc0 = acc := ⟨_, rfl⟩
      rw [hacc] at hr hal hs1
      have hlk := hr.look z hzl
      obtain ⟨r0, r1⟩ := hr.rbox.one
      obtain ⟨ct, hct⟩ : ∃ ct, acc.contains z = ct := ⟨_, rfl⟩
      rw [hct] at hlk
      have HCT := Lib.hid hct
      clear hz hts hc hacc hct
      cases ct with
      | true =>
        go_wp2_with fail
        refine ⟨⟨k + 1, av, by omega, by go_num, ?_⟩, by simp [intOf]; omega⟩
        rw [hs1.out, addS_in (List.contains_iff_mem.1 HCT.out)]; exact hr
      | false =>
        have he : Hid (addS acc z = acc ++ [z]) := Lib.hid (addS_out (fun h => by have := List.contains_iff_mem.2 h; rw [HCT.out] at this; cases this))
        have hml : acc.length < maxLen := by unfold maxLen; omega
        have hl1 : acc.length + 1 ≤ 2 ^ 40 := by omega
        have HR := Lib.hid hr
        have hbb : ∀ r, av.ownBlock = some r → base ≤ r := fun r hr' => (ownsRow_cells hr.own hr').1
        have HBB := Lib.hid hbb
        have hbg := hr.big
        obtain ⟨aa, ac, hav, _, _⟩ := hr.own.form
        rw [hav] at hr HR
        clear hbb hr
        go_wp2_with (first
          | (at_mapUpdate; refine wpList_put_M _ rfl _ _ _ 77 rfl _ keyN Try.underlying77 rfl HR.out.map hml _ (.int .i64 z) rfl (keyOf_Z z hzl) (.bool true) rfl ?_; intro w2 hm2 hg2; rw [upd_N _ _ hzl, updF_inSet, show (fN (inSet acc) (.int .i64 (z : Int))).isSome = false from by (rw [fN_at _ _ hzl, inSet_some]; exact HCT.out)] at hm2; have HR2 := Lib.hid (HR.out.put (sm' := acc ++ [z]) hg2 (by rw [List.length_append]; exact hm2)); obtain ⟨d0, d1⟩ := HR2.out.abox.one)
          | (at_builtin; refine wpList_append_N rfl (.tmp 18) (.tmp 20) rfl rfl rfl (HR2.out.own.old ((Below.refl _ _).alloc (Nat.le_refl _) _) (Nat.le_refl _)) ((Blk.new w2 #[Z z] _).at rfl) hl1 (by have := HR2.out.big; simp; omega) ?_; intro g1 cap1 w3 hown3 hg3 hat3; have HR3 := Lib.hid ((HR2.out.old ((Below.refl _ w2).alloc (Nat.le_refl _) (.cells #[Z z] 3))).push hg3 hown3); obtain ⟨d2, d3⟩ := ((HR2.out.abox.alloc (.cells #[Z z] 3)).kept hg3 (fun e => by have := HBB.out _ (by rw [hav]; exact e.symm); have := HR2.out.b3; omega)).one))
        have h3 := HR3.out
        rw [← he.out, ← hs1.out] at h3
        exact ⟨⟨k + 1, _, by omega, by go_num, h3⟩, by simp [intOf]; omega⟩
    · obtain rfl : k = l.length := by omega
      go_wp2_with fail
      go_end0
      rw [List.take_length] at hr
      exact ⟨rfl, av, hr⟩
end Go.Proofs.Ythbnbjigmgoldaa
