/- Package order: Names. No conditions beyond the readings of the arguments. -/
import Derived.Test.YthbnbjigmgoldaaOMap
namespace Go.Proofs.Ythbnbjigmgoldaa
open Go.RowKit
set_option linter.unusedVariables false

theorem dedup_take_snoc (l : List (Str × Bool)) (k : Nat) (hk : k < l.length) : l.take (k + 1) = l.take k ++ [l[k]?.getD ([], false)] := by
  rw [List.take_succ_eq_append_getElem hk, List.getElem?_eq_getElem hk]; rfl

set_option maxRecDepth 100000 in
set_option maxHeartbeats 1000000 in
theorem names_any (K : Nat) (p : Pl) (nm : ByteArray) (vd vt vc : Value) (w : World) (h : Defs K w vd p.defs) (hK : K ≤ w.heap.size) (hbig : p.defs.length ≤ 2 ^ 39) :
    Calls Try.prog 12 #[.agg #[.string nm, vd, vt, vc]] w fun e w' => ∃ x, e = .returned x ∧ OwnS w.heap.size w' x (names p) ∧ Below w.heap.size w w' := by
  obtain ⟨g, hg, hgi⟩ := h
  obtain ⟨va, vcap, rfl, _⟩ := id hg
  obtain ⟨B0, hB0⟩ : ∃ B0, w.heap.size = B0 := ⟨_, rfl⟩
  have HB := Lib.hid hB0
  rw [hB0] at hK ⊢
  obtain ⟨W, hW⟩ : ∃ W, (w.alloc (.cells #[.string nm, .slice va p.defs.length vcap, vt, vc] 26)).alloc (.map #[] 0) = W := ⟨_, rfl⟩
  have hb : Below B0 w W := by rw [← hW, ← hB0]; exact ((Below.refl _ w).alloc (Nat.le_refl _) _).alloc (by simp) _
  have hm0 : MapIs W 9 (B0 + 1) 0 (fS (inSet [])) := by
    have := MapIs.made (w.alloc (.cells #[.string nm, .slice va p.defs.length vcap, vt, vc] 26)) 9
    rw [World.size_alloc, hB0, fS_none, inSet_nil, hW] at this
    exact this
  have hsz : B0 + 2 = W.heap.size := by rw [← hW, ← hB0]; simp
  have HW := Lib.hid hW
  have HN : Hid (names p = dedup (defL p.defs)) := rfl
  obtain ⟨l, hl⟩ : ∃ l, p.defs = l := ⟨_, rfl⟩
  rw [hl] at hg hgi hbig
  have HL := Lib.hid hl
  have hmm := @run_makeMap Try.prog
  clear hB0 hW
  go_enter Try.func12, Try.ntmps12
  go_wp2
  rw [HL.out] at HW HN
  simp only [HL.out, HB.out]
  rw [HW.out]
  clear hl HL
  go_loopw [3, 11] (fun lv i wr => ∃ (k m : Nat), k ≤ l.length ∧ m ≤ k ∧ i = .int .i64 k ∧ OwnS (B0 + 2) wr lv (dedup (defL (l.take k))) ∧ MapIs wr 9 (B0 + 1) m (fS (inSet (dedup (defL (l.take k))))) ∧ Below B0 w wr ∧ B0 + 2 ≤ wr.heap.size) (fun _ i _ => l.length - (intOf i).toNat)
  case atStart => exact ⟨0, 0, Nat.zero_le _, Nat.le_refl _, rfl, OwnS.nil _ _, hm0, hb, by omega⟩
  case round =>
    obtain ⟨k, m, hk, hmk, rfl, hown, hmap, hbw, hszr⟩ := hrel
    by_cases hlt : k < l.length
    · obtain ⟨b, o, cap, he, hlc, hmx, hbK, hc⟩ := hg.pos (by omega)
      simp only [Value.slice.injEq, true_and] at he
      obtain ⟨rfl, rfl⟩ := he
      unfold maxLen at hmx
      have hck := hc k hlt
      obtain ⟨e0, e1, ⟨kd, e2⟩, e3⟩ := hgi k hlt
      have c0 := hck 0 (by omega)
      have c1 := hck 1 (by omega)
      have c2 := hck 2 (by omega)
      rw [e0] at c0; rw [e2] at c1; rw [e3] at c2
      rw [← hbw.cell (p := ⟨b, o + (k * 3 + 0), none⟩) (by simp; omega)] at c0
      rw [← hbw.cell (p := ⟨b, o + (k * 3 + 1), none⟩) (by simp; omega)] at c1
      rw [← hbw.cell (p := ⟨b, o + (k * 3 + 2), none⟩) (by simp; omega)] at c2
      simp only [Nat.add_zero, ← Nat.add_assoc] at c0 c1 c2
      have hsn := dedup_take_snoc l k hlt
      obtain ⟨x, hx⟩ : ∃ x, l[k]?.getD ([], false) = x := ⟨_, rfl⟩
      rw [hx] at c0 c2 hsn e1
      obtain ⟨s, fct⟩ := x
      dsimp only at c0 c2 e1
      have HSN := Lib.hid hsn
      have HX := Lib.hid hx
      have HG := Lib.hid hg
      have HGI := Lib.hid hgi
      clear hck e0 e2 e3 hsn hx hc hg hgi
      have hwl : Below B0 w (wr.alloc (.cells #[S s, .int .u8 kd, .bool fct] 59)) := hbw.alloc (by omega) _
      have hlen : (dedup (defL (l.take k))).length ≤ k := by
        refine Nat.le_trans (dedup_length_le _) ?_
        unfold defL
        rw [List.length_map]
        refine Nat.le_trans (List.length_filter_le _ _) ?_
        rw [List.length_take]; omega
      have HLEN := Lib.hid hlen
      clear hlen
      cases fct with
      | true =>
        go_wp2_with fail
        refine ⟨⟨k + 1, m, by omega, by omega, by go_num, ?_, ?_, hwl, by simp; omega⟩, by simp [intOf]; omega⟩
        · rw [HSN.out, defL_snoc_no]; exact hown.old ((Below.refl _ _).alloc (Nat.le_refl _) _) (Nat.le_refl _)
        · rw [HSN.out, defL_snoc_no]; exact hmap.alloc _
      | false =>
        obtain ⟨acc, hacc⟩ : ∃ acc, dedup (defL (l.take k)) = acc := ⟨_, rfl⟩
        rw [hacc] at hown hmap HLEN
        have hs1 : Hid (dedup (defL (l.take (k + 1))) = addS acc s) := by unfold Hid; rw [HSN.out, defL_snoc_yes, dedup_snoc, hacc]
        clear hacc HSN
        have hownW := hown.old ((Below.refl _ wr).alloc (Nat.le_refl _) (.cells #[S s, .int .u8 kd, .bool false] 59)) (Nat.le_refl _)
        have hmapW := hmap.alloc (.cells #[S s, .int .u8 kd, .bool false] 59)
        have hl : (Instr.lookup 63 (.map (some (B0 + 1))) (S s) false).run Try.prog (wr.alloc (.cells #[S s, .int .u8 kd, .bool false] 59)) = .ok (.bool (acc.contains s)) (wr.alloc (.cells #[S s, .int .u8 kd, .bool false] 59)) := by
          have := hmapW.look (t := 63) keyS Try.underlying63 (Try.zeroValue4 _) (keyOf_S s e1)
          rw [this]
          show Result.ok ((inSet acc s).getD (.bool false)) _ = _
          rw [inSet_get]
        obtain ⟨ct, hct⟩ : ∃ ct, acc.contains s = ct := ⟨_, rfl⟩
        rw [hct] at hl
        have HCT := Lib.hid hct
        clear hct hown hmap
        cases ct with
        | true =>
          go_wp2_with fail
          refine ⟨⟨k + 1, m, by omega, by omega, by go_num, ?_, ?_, hwl, by simp; omega⟩, by simp [intOf]; omega⟩
          · rw [hs1.out, addS_in (List.contains_iff_mem.1 HCT.out)]; exact hownW
          · rw [hs1.out, addS_in (List.contains_iff_mem.1 HCT.out)]; exact hmapW
        | false =>
          have hml : m < maxLen := by unfold maxLen; omega
          have HM := Lib.hid hmapW
          have hl1 : acc.length + 1 ≤ 2 ^ 40 := by have := HLEN.out; omega
          have hne : u3.ownBlock = none ∨ u3.ownBlock ≠ some (B0 + 1) := by
            cases hv : u3.ownBlock with
            | none => exact .inl rfl
            | some r => exact .inr fun he => by cases he; have := (ownsRow_cells hownW.1 hv).1; omega
          have HNE := Lib.hid hne
          have hbb : ∀ r, u3.ownBlock = some r → B0 + 2 ≤ r := fun r hr => (ownsRow_cells hownW.1 hr).1
          have HBB := Lib.hid hbb
          have q1 := Blk.new wr #[S s, .int .u8 kd, .bool false] 59
          clear hmapW hbb hne
          go_wp2_with (first
            | (at_mapUpdate; refine wpList_put_M _ rfl _ _ _ 63 rfl _ keyS Try.underlying63 rfl HM.out hml _ (.string s) rfl (keyOf_S s e1) (.bool true) rfl ?_; intro w2 hm2 hg2; have q2 := q1.kept hg2 (by simp; omega); have d0 : w2.cell? ⟨wr.heap.size, 0, none⟩ = some (S s) := q2.at rfl; have hs2 := hg2.size; simp only [World.size_alloc] at hs2; have hb2 : Below (B0 + 1) (wr.alloc (.cells #[S s, .int .u8 kd, .bool false] 59)) w2 := below_grown hg2 (fun r hr => by cases hr; omega) (by simp; omega))
            | (at_builtin; refine wpList_append_S rfl (.tmp 28) (.tmp 31) rfl rfl rfl ((hownW.kept hg2 HNE.out).old ((Below.refl _ _).alloc (Nat.le_refl _) _) (Nat.le_refl _)) ((Blk.new w2 #[S s] _).at rfl) e1 hl1 (by simp; omega) ?_; intro g1 cap1 w3 hown3 hg3 hat3))
          have hs3 := hg3.size
          simp only [World.size_alloc] at hs3
          have hb3 : Below (B0 + 2) (w2.alloc (.cells #[S s] 9)) w3 := below_grown hg3 HBB.out (by simp; omega)
          have hm3 : MapIs w3 9 (B0 + 1) (m + 1) (fS (inSet (acc ++ [s]))) := by
            have := ((hm2.alloc (.cells #[S s] 9)).below hb3 (by omega))
            rw [upd_S, updF_inSet, show (fS (inSet acc) (.string s)).isSome = false from (inSet_some acc s).trans HCT.out] at this
            exact this
          have he : Hid (addS acc s = acc ++ [s]) := Lib.hid (addS_out (fun h => by have := List.contains_iff_mem.2 h; rw [HCT.out] at this; cases this))
          refine ⟨⟨k + 1, m + 1, by omega, by omega, by go_num, ?_, ?_, ?_, by omega⟩, by simp [intOf]; omega⟩
          · rw [hs1.out, he.out]; exact hown3
          · rw [hs1.out, he.out]; exact hm3
          · exact ((hwl.trans (hb2.mono (by omega))).alloc (by omega) _).trans (hb3.mono (by omega))
    · obtain rfl : k = l.length := by omega
      go_wp2_with fail
      go_ret
      refine ⟨_, rfl, ?_, hbw⟩
      rw [HN.out]
      rw [List.take_length] at hown
      exact hown.mono (by omega)
end Go.Proofs.Ythbnbjigmgoldaa
