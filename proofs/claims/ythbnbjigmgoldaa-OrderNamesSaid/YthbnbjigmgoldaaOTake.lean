/- Package order: take. No conditions beyond the readings of the arguments. -/
import Derived.Test.YthbnbjigmgoldaaOGraph0
import Derived.Test.YthbnbjigmgoldaaOTake0
namespace Go.Proofs.Ythbnbjigmgoldaa
open Go.RowKit
set_option linter.unusedVariables false

set_option maxRecDepth 100000 in
set_option maxHeartbeats 4000000 in
theorem take_any (K : Nat) (nv : Value) (b : Nat) (ns : List Str) (f : Str → List Nat) (D : Nat → List Nat) (w : World) (h : GraphIs K w nv b ns f) (hK : K ≤ w.heap.size) (hD : D = fun i => f (ns[i]?.getD [])) (hl : ∀ s, ∀ i ∈ f s, i < ns.length) (hnd : ∀ s, (f s).Nodup) (hbig : ns.length ≤ 2 ^ 38) :
    Calls Try.prog 31 #[.agg #[nv, .map (some b)]] w fun e w' => ∃ v, e = .returned v ∧ OwnN w.heap.size w' v (taken ns.length D) ∧ Below w.heap.size w w' := by
  obtain ⟨n, hnn⟩ : ∃ n, ns.length = n := ⟨_, rfl⟩
  obtain ⟨na, ncap, rfl, hn1, hn2⟩ := id h.1.form
  unfold maxLen at hn2
  obtain ⟨B0, hB0⟩ : ∃ B0, w.heap.size = B0 := ⟨_, rfl⟩
  obtain ⟨W, hW⟩ : ∃ W, (((w.alloc (.cells #[.slice na n ncap, .map (some b)] 66)).alloc (.cells (arrF n fun _ => Z 0) 3)).alloc (.cells (arrF n fun _ => .slice none 0 0) 68)).alloc (.cells #[.slice none 0 0] 89) = W := ⟨_, rfl⟩
  obtain ⟨W0, hW0⟩ : ∃ W0, w.alloc (.cells #[.slice na n ncap, .map (some b)] 66) = W0 := ⟨_, rfl⟩
  have hbw0 : Below B0 w W0 := by rw [← hW0, ← hB0]; exact (Below.refl _ w).alloc (Nat.le_refl _) _
  have hs0' : W0.heap.size = B0 + 1 := by rw [← hW0, ← hB0]; simp
  have hbw : ∀ X, Below (B0 + 1) W0 X → Below B0 w X := fun X hX => hbw0.trans (hX.mono (by omega))
  have hb : Below (B0 + 1) W0 W := by rw [← hW, hW0]; exact (((Below.refl _ W0).alloc (by omega) _).alloc (by simp; omega) _).alloc (by simp; omega) _
  have hsz : W.heap.size = B0 + 4 := by rw [← hW, ← hB0]; simp
  have q0 : Blk W0 B0 #[.slice na n ncap, .map (some b)] 66 := by rw [← hW0, ← hB0]; exact Blk.new w _ _
  have hD' : ∀ i, D i = f (ns[i]?.getD []) := fun i => by rw [hD]
  have hDl : ∀ i, ∀ d ∈ D i, d < n := fun i d hd => by rw [hD'] at hd; rw [← hnn]; exact hl _ d hd
  have hDn : ∀ i, (D i).Nodup := fun i => by rw [hD']; exact hnd _
  have hDlen : ∀ i, (D i).length ≤ n := fun i => nodup_le n _ (hDn i) (hDl i)
  have htk : Tk (B0 + 4) (B0 + 1) (B0 + 3) n (fun _ => 0) (fun _ => .slice none 0 0) (needK D 0) (.slice none 0 0) [] (.slice none 0 0) [] (B0 + 1) W0 W := by
    have q1 : Blk W (B0 + 1) (arrF n fun _ => Z 0) 3 := by
      rw [← hW, ← hB0]
      have := Blk.new (w.alloc (.cells #[.slice na n ncap, .map (some b)] 66)) (arrF n fun _ => Z 0) 3
      rw [World.size_alloc] at this
      exact (this.alloc _).alloc _
    have q2 : Blk W (B0 + 2) (arrF n fun _ => .slice none 0 0) 68 := by
      rw [← hW, ← hB0]
      have := Blk.new ((w.alloc (.cells #[.slice na n ncap, .map (some b)] 66)).alloc (.cells (arrF n fun _ => Z 0) 3)) (arrF n fun _ => .slice none 0 0) 68
      rw [World.size_alloc, World.size_alloc] at this
      exact this.alloc _
    have q3 : Blk W (B0 + 3) #[.slice none 0 0] 89 := by
      rw [← hW, ← hB0]
      have := Blk.new (((w.alloc (.cells #[.slice na n ncap, .map (some b)] 66)).alloc (.cells (arrF n fun _ => Z 0) 3)).alloc (.cells (arrF n fun _ => .slice none 0 0) 68)) #[.slice none 0 0] 89
      rwa [World.size_alloc, World.size_alloc, World.size_alloc] at this
    exact ⟨q1, q2, fun j _ => OwnN.nil _ _, fun j k _ _ _ => Away.nil _ _ _, q3, OwnN.nil _ _, fun j _ => Away.nil _ _ _, OwnN.nil _ _, Away.nil _ _ _, fun j _ => Away.nil _ _ _, hb, by omega, by omega, by omega, by omega, by omega⟩
  have hm1 := fun w => make_ints n (by omega) w
  have hm2 := fun w => make_intss n (by omega) w
  have HB := Lib.hid hB0
  have HW := Lib.hid hW
  have HNN := Lib.hid hnn
  have HD := Lib.hid hD'
  rw [hB0] at hK ⊢
  rw [hnn] at hn1 hbig ⊢
  clear hB0 hW hD hD' hnn hW0
  go_enter Try.func31, Try.ntmps31
  go_wp2_with fail
  simp only [HB.out, Nat.add_assoc, Nat.reduceAdd]
  rw [HW.out]
  -- loops
  go_loopw [26] (fun i wr => ∃ (k : Nat) (hv : Value) (hs : List Nat) (V : Nat → Value), k ≤ n ∧ i = .int .i64 k ∧ Tk (B0 + 4) (B0 + 1) (B0 + 3) n (fun j => if j < k then (D j).length else 0) V (needK D k) hv hs (.slice none 0 0) [] (B0 + 1) W0 wr ∧ hs.Perm (roots D k) ∧ HeapF (fn hs) hs.length) (fun i _ => n - (intOf i).toNat)
  case atStart => exact ⟨0, _, [], _, Nat.zero_le _, rfl, htk.congrM (fun j _ => by simp), List.Perm.refl _, fun i h0 h1 => absurd h1 (by simp)⟩
  case round =>
    obtain ⟨k, hv, hs, V, hk, rfl, ht, hperm, hheap⟩ := hrel
    have hst := (h.1.below (hbw _ ht.bel) hK (Nat.le_refl _))
    by_cases hlt : k < n
    · obtain ⟨nb, no, ncp, hne, _, _, hnbK, hnc⟩ := hst.pos (by rw [HNN.out]; omega)
      rw [HNN.out] at hne hnc
      simp only [Value.slice.injEq, true_and] at hne
      obtain ⟨rfl, rfl⟩ := hne
      have s0 := hnc k hlt
      have hsl : (ns[k]?.getD []).length ≤ maxLen := hst.len
      have HDK := Lib.hid (HD.out k)
      obtain ⟨s, hs0⟩ : ∃ s, ns[k]?.getD [] = s := ⟨_, rfl⟩
      rw [hs0] at s0 hsl HDK
      obtain ⟨va, hla, hnv⟩ := (h.below (hbw _ ht.bel) hK (Nat.le_refl _)).look s hsl
      rw [← HDK.out] at hnv
      obtain ⟨a1, c1, rfl, _, hc1⟩ := hnv.form
      have hdk : (D k).length ≤ n := hDlen k
      obtain ⟨dl, hdl⟩ : ∃ dl, D k = dl := ⟨_, rfl⟩
      rw [hdl] at hnv hdk HDK hla
      have HDL := Lib.hid hdl
      obtain ⟨e0, e1⟩ := (q0.below ht.bel (by omega)).two
      have m0 : wr.cell? ⟨B0 + 1, k, none⟩ = some (Z 0) := by
        have := ht.mis.at (arrF_at _ hlt)
        simpa using this
      have m1 := ht.mis.free k
      have ht2 := ht.setM k dl.length
      unfold maxLen at hc1
      clear hs0 hnc hnv hdl
      go_upto_region 8 with fail
      -- rounds
      obtain ⟨w2, hw2⟩ : ∃ w2, wr.setCell ⟨B0 + 1, k, none⟩ (.int .i64 (dl.length : Int)) = w2 := ⟨_, rfl⟩
      have ht2 : Tk (B0 + 4) (B0 + 1) (B0 + 3) n (fun j => if j < k + 1 then (D j).length else 0) V (needK D k) hv hs (.slice none 0 0) [] (B0 + 1) W0 w2 := by
        rw [← hw2]
        refine ht2.congrM fun j hj => ?_
        by_cases e : j = k
        · subst e; rw [if_pos rfl, if_pos (by omega), HDL.out]
        · rw [if_neg e]
          by_cases e2 : j < k
          · rw [if_pos e2, if_pos (by omega)]
          · rw [if_neg e2, if_neg (by omega)]
      have m2 : w2.cell? ⟨B0 + 1, k, none⟩ = some (Z dl.length) := by
        have := ht2.mis.at (arrF_at _ hlt)
        rw [this, if_pos (by omega), HDL.out]
      rw [hw2]
      clear hw2 m0 m1 e0 e1 hla
      by_cases hz : dl.length = 0
      · have hzt : ((dl.length : Int) == 0) = true := by rw [hz]; rfl
        have HZ := Lib.hid hz
        have hhs : hs.length ≤ 2 ^ 39 := by
          rw [hperm.length_eq]
          have := nodup_le n (roots D k) (roots_nodup D k) (fun x hx => by have := (mem_roots.1 hx).1; omega)
          omega
        clear hz
        go_wp2_with fail
        refine (hpush_any (B0 + 4) (B0 + 3) k hv hs w2 ht2.box ht2.heap (by omega) ht2.big hhs hheap).mono ?_
        rintro e w3 ⟨rfl, g3, cap3, hs3, hp3, hh3, hb3, ho3, htu, hat3⟩
        have ht3 := ht2.turn htu hb3 ho3 (fun v l' h1 h2 => h2.grown h1 hat3)
        have hperm3 : hs3.Perm (roots D (k + 1)) := by
          rw [roots_succ, if_pos (by rw [HDL.out, List.isEmpty_iff]; exact List.eq_nil_of_length_eq_zero HZ.out)]
          exact hp3.trans (hperm.append_right _)
        clear m2 ht2
        obtain ⟨va2, hl2, hnv2⟩ := (h.below (hbw _ ht3.bel) hK (Nat.le_refl _)).look s hsl
        rw [← HDK.out] at hnv2
        obtain ⟨na2, nc2, rfl, _, hnc2⟩ := hnv2.form
        have HNV2 := Lib.hid hnv2
        obtain ⟨e0, e1⟩ := (q0.below ht3.bel (by omega)).two
        have HT := Lib.hid ht3
        clear hnv2
        unfold maxLen at hnc2
        go_wp2_with fail
        clear hl2 e0 e1
        go_loopw [53] (fun q wr => ∃ (qn : Nat) (V' : Nat → Value), qn ≤ dl.length ∧ q = .int .i64 qn ∧ Tk (B0 + 4) (B0 + 1) (B0 + 3) n (fun j => if j < k + 1 then (D j).length else 0) V' (needQ D k (dl.take qn)) (.slice (some ⟨g3, 0, none⟩) (hs.length + 1) cap3) hs3 (.slice none 0 0) [] (B0 + 1) W0 wr) (fun q _ => dl.length - (intOf q).toNat)
        case atStart => exact ⟨0, V, Nat.zero_le _, rfl, by rw [List.take_zero, needQ_nil]; exact HT.out⟩
        case round =>
          obtain ⟨qn, V', hqn, rfl, hq⟩ := hrel
          obtain ⟨wq, rfl⟩ : ∃ wq : World, wq = wr := ⟨_, rfl⟩
          by_cases hql : qn < dl.length
          · obtain ⟨vb, vo, vcp, hve, _, _, hvbK, hvc⟩ := HNV2.out.pos (by omega)
            simp only [Value.slice.injEq, true_and] at hve
            obtain ⟨rfl, rfl⟩ := hve
            have d0 : wq.cell? ⟨vb, vo + qn, none⟩ = some (Z (fn dl qn)) := ((hbw _ hq.bel).cell (p := ⟨vb, vo + qn, none⟩) (Nat.lt_of_lt_of_le hvbK hK)).trans (((hbw _ HT.out.bel).cell (p := ⟨vb, vo + qn, none⟩) (Nat.lt_of_lt_of_le hvbK hK)).symm.trans (hvc qn hql))
            have hdn : fn dl qn < n := hDl k _ (by rw [HDL.out]; exact fn_mem hql)
            have hdt : fn dl qn ∉ dl.take qn := fn_not_mem_take (by rw [← HDL.out]; exact hDn k) hql
            have hts := take_fn dl qn hql
            obtain ⟨d, hd⟩ : ∃ d, fn dl qn = d := ⟨_, rfl⟩
            rw [hd] at d0 hdn hdt hts
            have hns := needQ_succ D k (dl.take qn) d hdt
            rw [← hts] at hns
            have hrow := hq.rows d hdn
            have o0 := hq.out.at (arrF_at V' hdn)
            have o1 := hq.out.free d
            obtain ⟨ra, rc, hrv, _, _⟩ := hrow.form
            have hrl : (needQ D k (dl.take qn) d).length + 1 ≤ 2 ^ 40 := by
              unfold needQ needK
              rw [List.length_append]
              have h1 := List.length_filter_le (fun i => (D i).contains d) (List.range k)
              rw [List.length_range] at h1
              have h2 : (if (dl.take qn).contains d then [k] else []).length ≤ 1 := by split <;> simp
              omega
            have HV := Lib.hid hrv
            rw [hrv] at hrow o0
            obtain ⟨rl, hrle⟩ : ∃ rl, needQ D k (dl.take qn) d = rl := ⟨_, rfl⟩
            have HRL := Lib.hid hrle
            rw [hrle] at hrow o0 hrl hns
            have HNS := Lib.hid hns
            have hrb : ∀ r, (Value.slice ra rl.length rc).ownBlock = some r → B0 + 4 ≤ r := fun r hr => (ownsRow_cells hrow hr).1
            have HRB := Lib.hid hrb
            have HQ := Lib.hid hq
            have hqbig := hq.big
            clear hd hts hns hrv hrle hrb hq hvc hdt
            go_wp2_with (at_builtin; refine wpList_append_N rfl (.tmp 62) (.tmp 64) rfl rfl rfl (hrow.old ((Below.refl _ _).alloc (Nat.le_refl _) _) (Nat.le_refl _)) ((Blk.new wq #[Z k] _).at rfl) hrl (by simp; omega) ?_; intro g6 cap6 w6 hown6 hg6 hat6; have r6 := (HQ.out.out.alloc (.cells #[Z k] 3)).kept hg6 (fun e => by have := HRB.out _ e.symm; omega); have o2 := r6.at (arrF_at V' hdn); have o3 := r6.free d)
            have hnd := (HQ.out.old ((Below.refl _ wq).alloc (Nat.le_refl _) (.cells #[Z k] 3))).need hdn (by rw [HV.out, HRL.out]; exact hg6) hown6 (by rw [HV.out, HRL.out]; exact hat6)
            rw [HNS.out] at hnd
            exact ⟨⟨qn + 1, _, by omega, by go_num, hnd⟩, by simp [intOf]; omega⟩
          · obtain rfl : qn = dl.length := by omega
            rw [List.take_length] at hq
            have hqd : needQ D k dl = needK D (k + 1) := by rw [← HDL.out, needQ_all]
            rw [hqd] at hq
            go_wp2_with fail
            refine ⟨⟨k + 1, (.slice (some ⟨g3, 0, none⟩) (hs.length + 1) cap3), hs3, V', by omega, by go_num, hq, hperm3, hh3⟩, by simp [intOf]; omega⟩
      · have hzt : ((dl.length : Int) == 0) = false := by rw [beq_eq_false_iff_ne]; omega
        have hperm3 : hs.Perm (roots D (k + 1)) := by
          rw [roots_succ, if_neg (by rw [HDL.out, List.isEmpty_iff]; exact fun e => hz (by rw [e]; rfl)), List.append_nil]
          exact hperm
        obtain ⟨va2, hl2, hnv2⟩ := (h.below (hbw _ ht2.bel) hK (Nat.le_refl _)).look s hsl
        rw [← HDK.out] at hnv2
        obtain ⟨na2, nc2, rfl, _, hnc2⟩ := hnv2.form
        have HNV2 := Lib.hid hnv2
        obtain ⟨e0, e1⟩ := (q0.below ht2.bel (by omega)).two
        have HT := Lib.hid ht2
        clear hnv2
        unfold maxLen at hnc2
        go_wp2_with fail
        clear hl2 e0 e1
        go_loopw [53] (fun q wr => ∃ (qn : Nat) (V' : Nat → Value), qn ≤ dl.length ∧ q = .int .i64 qn ∧ Tk (B0 + 4) (B0 + 1) (B0 + 3) n (fun j => if j < k + 1 then (D j).length else 0) V' (needQ D k (dl.take qn)) hv hs (.slice none 0 0) [] (B0 + 1) W0 wr) (fun q _ => dl.length - (intOf q).toNat)
        case atStart => exact ⟨0, V, Nat.zero_le _, rfl, by rw [List.take_zero, needQ_nil]; exact HT.out⟩
        case round =>
          obtain ⟨qn, V', hqn, rfl, hq⟩ := hrel
          obtain ⟨wq, rfl⟩ : ∃ wq : World, wq = wr := ⟨_, rfl⟩
          by_cases hql : qn < dl.length
          · obtain ⟨vb, vo, vcp, hve, _, _, hvbK, hvc⟩ := HNV2.out.pos (by omega)
            simp only [Value.slice.injEq, true_and] at hve
            obtain ⟨rfl, rfl⟩ := hve
            have d0 : wq.cell? ⟨vb, vo + qn, none⟩ = some (Z (fn dl qn)) := ((hbw _ hq.bel).cell (p := ⟨vb, vo + qn, none⟩) (Nat.lt_of_lt_of_le hvbK hK)).trans (((hbw _ HT.out.bel).cell (p := ⟨vb, vo + qn, none⟩) (Nat.lt_of_lt_of_le hvbK hK)).symm.trans (hvc qn hql))
            have hdn : fn dl qn < n := hDl k _ (by rw [HDL.out]; exact fn_mem hql)
            have hdt : fn dl qn ∉ dl.take qn := fn_not_mem_take (by rw [← HDL.out]; exact hDn k) hql
            have hts := take_fn dl qn hql
            obtain ⟨d, hd⟩ : ∃ d, fn dl qn = d := ⟨_, rfl⟩
            rw [hd] at d0 hdn hdt hts
            have hns := needQ_succ D k (dl.take qn) d hdt
            rw [← hts] at hns
            have hrow := hq.rows d hdn
            have o0 := hq.out.at (arrF_at V' hdn)
            have o1 := hq.out.free d
            obtain ⟨ra, rc, hrv, _, _⟩ := hrow.form
            have hrl : (needQ D k (dl.take qn) d).length + 1 ≤ 2 ^ 40 := by
              unfold needQ needK
              rw [List.length_append]
              have h1 := List.length_filter_le (fun i => (D i).contains d) (List.range k)
              rw [List.length_range] at h1
              have h2 : (if (dl.take qn).contains d then [k] else []).length ≤ 1 := by split <;> simp
              omega
            have HV := Lib.hid hrv
            rw [hrv] at hrow o0
            obtain ⟨rl, hrle⟩ : ∃ rl, needQ D k (dl.take qn) d = rl := ⟨_, rfl⟩
            have HRL := Lib.hid hrle
            rw [hrle] at hrow o0 hrl hns
            have HNS := Lib.hid hns
            have hrb : ∀ r, (Value.slice ra rl.length rc).ownBlock = some r → B0 + 4 ≤ r := fun r hr => (ownsRow_cells hrow hr).1
            have HRB := Lib.hid hrb
            have HQ := Lib.hid hq
            have hqbig := hq.big
            clear hd hts hns hrv hrle hrb hq hvc hdt
            go_wp2_with (at_builtin; refine wpList_append_N rfl (.tmp 62) (.tmp 64) rfl rfl rfl (hrow.old ((Below.refl _ _).alloc (Nat.le_refl _) _) (Nat.le_refl _)) ((Blk.new wq #[Z k] _).at rfl) hrl (by simp; omega) ?_; intro g6 cap6 w6 hown6 hg6 hat6; have r6 := (HQ.out.out.alloc (.cells #[Z k] 3)).kept hg6 (fun e => by have := HRB.out _ e.symm; omega); have o2 := r6.at (arrF_at V' hdn); have o3 := r6.free d)
            have hnd := (HQ.out.old ((Below.refl _ wq).alloc (Nat.le_refl _) (.cells #[Z k] 3))).need hdn (by rw [HV.out, HRL.out]; exact hg6) hown6 (by rw [HV.out, HRL.out]; exact hat6)
            rw [HNS.out] at hnd
            exact ⟨⟨qn + 1, _, by omega, by go_num, hnd⟩, by simp [intOf]; omega⟩
          · obtain rfl : qn = dl.length := by omega
            rw [List.take_length] at hq
            have hqd : needQ D k dl = needK D (k + 1) := by rw [← HDL.out, needQ_all]
            rw [hqd] at hq
            go_wp2_with fail
            refine ⟨⟨k + 1, hv, hs, V', by omega, by go_num, hq, hperm3, hheap⟩, by simp [intOf]; omega⟩
      -- end of rounds
    · obtain rfl : k = n := by omega
      have ht1 : Tk (B0 + 4) (B0 + 1) (B0 + 3) k (miss D []) V (need k D) hv hs (.slice none 0 0) [] (B0 + 1) W0 wr := ht.congrM fun j hj => by rw [if_pos hj, miss_nil]
      obtain ⟨n, hkn⟩ : ∃ n, k = n := ⟨_, rfl⟩
      subst hkn
      have hnodup : hs.Nodup := hperm.nodup_iff.2 (roots_nodup D k)
      have hmem : Hid (∀ x, x ∈ hs ↔ x < k ∧ rdy D [] x = true) := Lib.hid fun x => by rw [hperm.mem_iff]; exact mem_roots
      clear htk hm1 hm2 hst hlt hperm ht
      obtain ⟨wo, rfl⟩ : ∃ wo : World, wo = wr := ⟨_, rfl⟩
      go_wp2_with fail
      go_loopw [10] (fun lv wr => ∃ (l hs : List Nat) (hv : Value), Tk (B0 + 4) (B0 + 1) (B0 + 3) k (miss D l) V (need k D) hv hs lv l (B0 + 1) W0 wr ∧ Hid (Greedy k D l) ∧ HeapF (fn hs) hs.length ∧ hs.Nodup ∧ Hid (∀ x, x ∈ hs ↔ x < k ∧ rdy D l x = true)) (fun lv _ => match lv with | .slice _ m _ => k - m | _ => 0)
      case atStart => exact ⟨[], hs, hv, ht1, Lib.hid (Greedy.nil _ _), hheap, hnodup, hmem⟩
      case round =>
        clear ht1 hmem hnodup hheap
        obtain ⟨l, hs, hv, ht, HG, hheap, hnodup, HM⟩ := hrel
        obtain ⟨wq, rfl⟩ : ∃ wq : World, wq = wr := ⟨_, rfl⟩
        obtain ⟨b0, b1⟩ := ht.box.one
        obtain ⟨la, lc, rfl, _, _⟩ := ht.lst.form
        cases hs with
        | nil =>
          obtain ⟨ha, hc, rfl, _, _⟩ := ht.heap.form
          go_wp2_with fail
          refine (len_any _ _ _ wq).mono ?_
          rintro e w' ⟨rfl, rfl⟩
          go_wp2_with fail
          go_ret
          refine ⟨_, rfl, ?_, hbw _ ht.bel⟩
          rw [HG.out.taken (next_none.2 fun j hj => by
            cases hr : rdy D l j with
            | false => rfl
            | true => exact absurd ((HM.out j).2 ⟨hj, hr⟩) (by simp))]
          exact ht.lst.mono (by omega)
        | cons h0 hr0 =>
          obtain ⟨hs, hse⟩ : ∃ hs, h0 :: hr0 = hs := ⟨_, rfl⟩
          have hm : hs.length = hr0.length + 1 := by rw [← hse]; rfl
          obtain ⟨m, hme⟩ : ∃ m, hr0.length = m := ⟨_, rfl⟩
          rw [hme] at hm
          rw [hse] at ht hheap hnodup HM
          clear hse hme
          obtain ⟨g, c, rfl, hc1, hc2⟩ := ht.heap.pos (by omega)
          have hmn : hs.length ≤ k := nodup_le k hs hnodup (fun x hx => ((HM.out x).1 hx).1)
          have hbox := ht.box
          have hheapr := ht.heap
          rw [hm] at hbox hheapr hheap b0
          have hmin : ∀ x ∈ hs, fn hs 0 ≤ x := fun x hx => by
            obtain ⟨i, hi, rfl⟩ := List.mem_iff_getElem.1 hx
            have h1 := heap_min hheap i i (Nat.le_refl _) (by omega)
            have e : fn hs i = hs[i] := by unfold fn; rw [List.getElem?_eq_getElem hi]; rfl
            rw [e] at h1
            exact h1
          have hnext := next_min HM.out (fn_mem (l := hs) (q := 0) (by omega)) hmin
          have hpop := hpop_any (B0 + 4) (B0 + 3) g m c hs wq hm hbox hheapr (by omega) (by omega) hheap
          have HT := Lib.hid ht
          have HMM := Lib.hid hm
          clear hmin hbox hheapr ht
          go_wp2_with fail
          refine (len_any _ _ _ wq).mono ?_
          rintro e w' ⟨rfl, rfl⟩
          go_wp2_with fail
          refine hpop.mono ?_
          clear hpop
          rintro e w2 ⟨rfl, hs1, hp1, hl1, hh1, hb2, ho2, htu2⟩
          have HT2 := Lib.hid (HT.out.turn (htu2.mono fun i _ e => e.imp id fun e => by rw [e]; rfl) hb2 ho2 (fun _ _ _ ha => ha))
          have hhn : HeapF (fn hs1) hs1.length := by rw [hl1]; exact hh1
          have hn0 : (fn hs 0 :: hs1).Nodup := hp1.nodup_iff.2 hnodup
          have HM1 : ∀ x, x ∈ fn hs 0 :: hs1 ↔ x < k ∧ rdy D l x = true := fun x => by rw [hp1.mem_iff]; exact HM.out x
          obtain ⟨i, hi⟩ : ∃ i, fn hs 0 = i := ⟨_, rfl⟩
          rw [hi] at hnext hn0 HM1 ⊢
          have hta := tassert (i : Int)
          have hll : l.length + 1 ≤ 2 ^ 40 := by have := HG.out.length; omega
          have hlst := HT2.out.lst
          have hlb : ∀ r, (Value.slice la l.length lc).ownBlock = some r → B0 + 4 ≤ r := fun r hr => (ownsRow_cells hlst hr).1
          have HLB := Lib.hid hlb
          have hin : i < k := (next_some.1 hnext).1
          have hVr := HT2.out.rows i hin
          obtain ⟨va, vc, hvv, _, hvc⟩ := hVr.form
          have HV := Lib.hid hvv
          obtain ⟨nd, hnd⟩ : ∃ nd, need k D i = nd := ⟨_, rfl⟩
          have HND := Lib.hid hnd
          rw [hnd] at hvv
          have HN1 := Lib.hid hn0
          have HMM1 := Lib.hid HM1
          have HHN := Lib.hid hhn
          have HNX := Lib.hid hnext
          have hbig2 := HT2.out.big
          have HGL : Hid (Greedy k D (l ++ [i])) := Lib.hid (HG.out.snoc hnext)
          unfold maxLen at hvc
          clear hlb hVr hnd hn0 HM1 hhn hnext hh1 hp1 hl1 hb2 ho2 htu2 HT HMM hnodup HM hi hc1 hc2 b0 b1 hm
          clear hmn
          go_wp2_with (at_builtin; refine wpList_append_N rfl (.tmp 79) (.tmp 81) rfl rfl rfl (hlst.old ((Below.refl _ _).alloc (Nat.le_refl _) _) (Nat.le_refl _)) ((Blk.new w2 #[Z i] _).at rfl) hll (by simp; omega) ?_; intro g6 cap6 w6 hown6 hg6 hat6; have HT6 := Lib.hid ((HT2.out.old ((Below.refl _ w2).alloc (Nat.le_refl _) (.cells #[Z i] 3))).push hg6 hown6 hat6); have o2 := HT6.out.out.at (arrF_at V hin); rw [hvv] at o2; have o3 := HT6.out.out.free i; clear hown6 hg6 hat6)
          clear HT2 hlst HLB o2 o3 hta hbig2 hll
          go_loopw [88] (fun q wr => ∃ (qn : Nat) (hv : Value) (hs2 : List Nat), qn ≤ nd.length ∧ q = .int .i64 qn ∧ Tk (B0 + 4) (B0 + 1) (B0 + 3) k (missQ D l i (nd.take qn)) V (need k D) hv hs2 (.slice (some ⟨g6, 0, none⟩) (l.length + 1) cap6) (l ++ [i]) (B0 + 1) W0 wr ∧ Hid (HeapF (fn hs2) hs2.length) ∧ Hid (hs2.Perm (hs1 ++ (nd.take qn).filter (fun j => miss D (l ++ [i]) j == 0)))) (fun q _ => nd.length - (intOf q).toNat)
          case atStart => exact ⟨0, _, hs1, Nat.zero_le _, rfl, by rw [List.take_zero, missQ_nil]; exact HT6.out, HHN, Lib.hid (by simp)⟩
          case round =>
            obtain ⟨qn, hv, hs2, hqn, rfl, hq, HH2, HP2⟩ := hrel
            obtain ⟨wp, rfl⟩ : ∃ wp : World, wp = wr := ⟨_, rfl⟩
            by_cases hql : qn < nd.length
            · have hrow := hq.rows i hin
              rw [HV.out, HND.out] at hrow
              obtain ⟨gv, cv, hve, _, _⟩ := hrow.pos (by omega)
              simp only [Value.slice.injEq, true_and] at hve
              obtain ⟨rfl, rfl⟩ := hve
              have d0 := hrow.cell (q := qn) hql
              have hmem := fn_mem (l := nd) hql
              have hdt : fn nd qn ∉ nd.take qn := fn_not_mem_take (by rw [← HND.out]; exact need_nodup k D i) hql
              have hts := take_fn nd qn hql
              rw [← HND.out] at hmem
              have hmem := mem_need.1 hmem
              rw [HND.out] at hmem
              obtain ⟨j, hj⟩ : ∃ j, fn nd qn = j := ⟨_, rfl⟩
              rw [hj] at d0 hmem hdt hts
              obtain ⟨hjk, hij⟩ := hmem
              have hx : missQ D l i (nd.take qn) j = miss D (l ++ [i]) j + 1 := by
                unfold missQ
                rw [if_neg (by rw [List.contains_iff_mem]; exact hdt)]
                exact miss_snoc_in (hDn j) (rdy_iff.1 (next_some.1 HNX.out).2.1).1 hij
              have m0 := hq.mis.at (arrF_at _ hjk)
              have m1 := hq.mis.free j
              rw [hx] at m0
              have hxs := hq.setM j (miss D (l ++ [i]) j)
              rw [missQ_succ, ← hts] at hxs
              have hxk : miss D (l ++ [i]) j ≤ k := Nat.le_trans (List.length_filter_le _ _) (hDlen j)
              have hfl : (nd.take (qn + 1)).filter (fun j => miss D (l ++ [i]) j == 0) = (nd.take qn).filter (fun j => miss D (l ++ [i]) j == 0) ++ (if miss D (l ++ [i]) j = 0 then [j] else []) := by
                rw [hts, List.filter_append]
                congr 1
                simp only [List.filter_cons, List.filter_nil]
                by_cases hz : miss D (l ++ [i]) j = 0 <;> simp [hz]
              have HFL := Lib.hid hfl
              obtain ⟨x, hxe⟩ : ∃ x, miss D (l ++ [i]) j = x := ⟨_, rfl⟩
              have HXE := Lib.hid hxe
              rw [hxe] at m0 hxk hxs
              have hsub : ((x + 1 : Nat) : Int) - 1 = (x : Int) := by omega
              have HTS : Hid (j ∈ nd.take (qn + 1)) := Lib.hid (by rw [hts]; simp)
              clear hj hts hdt hij hx hxe hrow hq hfl
              have d0 : wp.cell? ⟨gv, qn, none⟩ = some (.int .i64 (j : Int)) := d0
              have m0 : wp.cell? ⟨B0 + 1, j, none⟩ = some (.int .i64 ((x + 1 : Nat) : Int)) := m0
              have hst2 : wp.setCell ⟨B0 + 1, j, none⟩ (.int .i64 (x : Int)) = wp.setCell ⟨B0 + 1, j, none⟩ (Z x) := rfl
              go_upto_region 24 with fail
              obtain ⟨w4, hw4⟩ : ∃ w4, wp.setCell ⟨B0 + 1, j, none⟩ (.int .i64 (x : Int)) = w4 := ⟨_, rfl⟩
              rw [hst2, hst2.symm.trans hw4] at hxs
              rw [hw4]
              have m2 : w4.cell? ⟨B0 + 1, j, none⟩ = some (.int .i64 (x : Int)) := by
                have h1 := hxs.mis.at (arrF_at _ hjk)
                rw [h1, ← HXE.out]
                unfold missQ
                rw [if_pos (by rw [List.contains_iff_mem]; exact HTS.out)]
              clear hw4 hst2 m0 m1 d0 hsub
              by_cases hz : x = 0
              · have hzt : ((x : Int) == 0) = true := by rw [hz]; rfl
                have HZ := Lib.hid hz
                have hhs : hs2.length ≤ 2 ^ 39 := by
                  rw [HP2.out.length_eq, List.length_append]
                  have h1 := List.length_filter_le (fun j => miss D (l ++ [i]) j == 0) (nd.take qn)
                  have h2 : nd.length ≤ k := by rw [← HND.out]; unfold need; have := List.length_filter_le (fun i' => (D i').contains i) (List.range k); rw [List.length_range] at this; exact this
                  have h3 : hs1.length ≤ k := nodup_le k hs1 (List.nodup_cons.1 HN1.out).2 (fun x hx => ((HMM1.out x).1 (by simp [hx])).1)
                  have h4 : (nd.take qn).length ≤ nd.length := by rw [List.length_take]; exact Nat.min_le_right _ _
                  omega
                have hpush := hpush_any (B0 + 4) (B0 + 3) j hv hs2 w4 hxs.box hxs.heap (by omega) hxs.big hhs HH2.out
                clear hz
                go_wp2_with fail
                refine hpush.mono ?_
                clear hpush
                rintro e w5 ⟨rfl, g5, cap5, hs5, hp5, hh5, hb5, ho5, htu5, hat5⟩
                have hT5 := hxs.turn htu5 hb5 ho5 (fun v l' h1 h2 => h2.grown h1 hat5)
                have hP5 : hs5.Perm (hs1 ++ (nd.take (qn + 1)).filter (fun j => miss D (l ++ [i]) j == 0)) := by
                  rw [HFL.out, if_pos (by rw [HXE.out]; exact HZ.out), ← List.append_assoc]
                  exact hp5.trans (HP2.out.append_right _)
                clear hxs m2 HFL HP2
                go_wp2_with fail
                exact ⟨⟨qn + 1, _, hs5, by omega, by go_num, hT5, Lib.hid hh5, Lib.hid hP5⟩, by simp [intOf]; omega⟩
              · have hzt : ((x : Int) == 0) = false := by rw [beq_eq_false_iff_ne]; omega
                have hP5 : hs2.Perm (hs1 ++ (nd.take (qn + 1)).filter (fun j => miss D (l ++ [i]) j == 0)) := by
                  rw [HFL.out, if_neg (by rw [HXE.out]; exact hz), List.append_nil]
                  exact HP2.out
                clear hz
                go_wp2_with fail
                exact ⟨⟨qn + 1, _, hs2, by omega, by go_num, hxs, HH2, Lib.hid hP5⟩, by simp [intOf]; omega⟩
            · obtain rfl : qn = nd.length := by omega
              rw [List.take_length] at hq
              rw [List.take_length] at HP2
              have hq2 := hq.congrM (M' := miss D (l ++ [i])) (by rw [← HND.out]; exact fun j hj => missQ_all j hj)
              have hll := HGL.out.length
              rw [List.length_append, List.length_singleton] at hll
              clear hq
              go_wp2_with fail
              refine ⟨⟨l ++ [i], hs2, hv, hq2, HGL, HH2.out, ?_, Lib.hid ?_⟩, by dsimp only; omega⟩
              · have h1 := ready_nodup HNX.out HMM1.out (List.nodup_cons.1 HN1.out).2
                rw [HND.out] at h1
                exact HP2.out.nodup_iff.2 h1
              · intro x
                have h1 := ready_step HG.out HNX.out HMM1.out (List.nodup_cons.1 HN1.out).1 x
                rw [HND.out, ← HP2.out.mem_iff] at h1
                exact h1
end Go.Proofs.Ythbnbjigmgoldaa
