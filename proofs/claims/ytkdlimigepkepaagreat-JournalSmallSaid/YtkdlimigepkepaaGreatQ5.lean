/- The reference of layer 37: Scan. No conditions beyond sizes. -/
import Derived.Test.YtkdlimigepkepaaGreatQLaw
import Derived.Test.YtkdlimigepkepaaGreatQ4
import Derived.BigQuiet
namespace Go.Proofs.YtkdlimigepkepaaGreat
open Go.RowKit
set_option linter.unusedVariables false

theorem wpList_append_T {ops : Array Oper} {rest : List Oper} {o : Oper} {a : Act} {Q : Exit → Act → World → Prop} (hgd : o.guard = none) (s x : Operand)
    (ho : o.op = .call { callee := .builtin .append, args := #[s, x], argTypes := #[45, 45] })
    (w0 w : World) {base : Nat} {v pv : Value} {ps : List (List UInt8)} {p : List UInt8} (hs : a.eval s = v) (hxv : a.eval x = .slice (some ⟨w.heap.size, 0, none⟩) 1 1) (hown0 : OwnTs base w0 v ps) (hg0 : w0.grownBy w none)
    (hp : OwnB w0.heap.size w pv p) (hB : base ≤ w0.heap.size) (h63 : ps.length ≤ 2 ^ 40)
    (h : ∀ v' w', OwnTs base w' v' (ps ++ [p]) → (w.alloc (.cells #[pv] 22)).grownBy w' v.ownBlock → wpList Tryz.prog ops Q rest (a.put o.dst v') w') : wpList Tryz.prog ops Q (o :: rest) a (w.alloc (.cells #[pv] 22)) :=
  wpList_plain hgd fun _ hK => wp_append_T s x ho w0 w hs hxv hown0 hg0 hp hB h63 fun v' w' h2 h3 => hK _ _ (h v' w' h2 h3)

set_option maxRecDepth 100000 in
set_option maxHeartbeats 1000000 in
theorem scan_ref (K : Nat) (v : Value) (l : List UInt8) (w : World) (h : Byts K w v l) (hK : K ≤ w.heap.size) (hl21 : l.length ≤ 2 ^ 21) :
    Calls Tryz.prog 21 #[v] w fun e w' => ∃ v', e = .returned (.tuple #[v', .int .i64 (endOf (scanOf l))]) ∧ OwnTs w.heap.size w' v' (scanOf l) ∧ Below w.heap.size w w' := by
  obtain ⟨va, cap, rfl, hl1, hl2, hz, _⟩ := id h
  have HV := Lib.hid h
  have hl2' : cap ≤ 2 ^ 63 - 1 := by unfold maxLen at hl2; omega
  clear h hl2 hz
  go_enter Tryz.func21, Tryz.ntmps21
  go_wp2_with fail
  go_loopw [4, 5, 6, 7] (fun s4 s5 s6 s7 wr => ∃ ps, ReadsTo l ps ∧ s5 = .int .i64 (endOf ps : Nat) ∧ OwnTs w.heap.size wr s4 ps ∧ Below w.heap.size w wr) (fun s4 s5 s6 s7 _ => l.length - (intOf s5).toNat)
  case atStart => exact ⟨[], ReadsTo.nil l, rfl, OwnTs.nil _ _, Below.refl _ _⟩
  case round =>
    obtain ⟨ps, hrd, rfl, hts, hbl⟩ := hrel
    obtain ⟨pa, pc, rfl, hp1, hp2, _⟩ := id hts.txts
    have hp2' : pc ≤ 2 ^ 63 - 1 := by unfold maxLen at hp2; omega
    obtain ⟨hf1, hf2⟩ := hrd.fits
    have HRD := Lib.hid hrd
    obtain ⟨e, he⟩ : ∃ e, endOf ps = e := ⟨_, rfl⟩
    rw [he] at hf1 ⊢
    have HE := Lib.hid he
    clear hp2 he hrd
    have hdone : nextRec l ps.length e = none → ps = scanOf l := fun hn => IsScan.of HRD.out (by rw [HE.out]; exact hn)
    have HDONE := Lib.hid hdone
    clear hdone
    by_cases h1 : ps.length < 65536
    · have t1 : decide ((ps.length : Int) < (65536 : Int)) = true := by simp; omega
      by_cases h2 : e + 10 ≤ l.length
      · have t2 : decide ((10 : Int) ≤ (l.length : Int) - (e : Int)) = true := by simp; omega
        have h1' := h1
        clear h1
        have hby4 := (HV.out.below (hbl.mono hK) (Nat.le_refl _)).sub (e + 4) 2 (by omega)
        go_upto_region 5 with fail
        refine (number_ref K _ _ wr hby4 (by simp; omega)).mono ?_
        obtain ⟨s, hs⟩ : ∃ s, leN ((l.drop (e + 4)).take 2) = s := ⟨_, rfl⟩
        have hs16 : s ≤ 65535 := by rw [← hs]; have h1 := leN_lt ((l.drop (e + 4)).take 2); have h2 : ((l.drop (e + 4)).take 2).length = 2 := by simp; omega
                                    rw [h2] at h1; omega
        have HS := Lib.hid hs
        rw [hs]
        clear hs hby4
        rintro e' w' ⟨rfl, rfl⟩
        by_cases h3 : 4096 < s
        · have t3 : decide ((4096 : Int) < (s : Int)) = true := by simp; omega
          have hn : Hid (nextRec l ps.length e = none) := nextRec_size (.inl (by rw [HS.out]; exact h3))
          clear h3
          go_wp2_with fail
          go_ret2
          have h := HDONE.out hn.out
          have hE : endOf (scanOf l) = e := by rw [← h]; exact HE.out
          rw [hE]
          exact ⟨_, rfl, h ▸ hts, hbl⟩
        have t3 : decide ((4096 : Int) < (s : Int)) = false := by simp; omega
        by_cases h4 : l.length < e + 10 + s
        · have t4 : decide ((l.length : Int) - (e : Int) < (s : Int) + 10) = true := by simp; omega
          have hn : Hid (nextRec l ps.length e = none) := nextRec_size (.inr (by rw [HS.out]; exact h4))
          clear h3 h4
          go_wp2_with fail
          go_ret2
          have h := HDONE.out hn.out
          have hE : endOf (scanOf l) = e := by rw [← h]; exact HE.out
          rw [hE]
          exact ⟨_, rfl, h ▸ hts, hbl⟩
        have t4 : decide ((l.length : Int) - (e : Int) < (s : Int) + 10) = false := by simp; omega
        have h3' : s ≤ 4096 := by omega
        have h4' : e + 10 + s ≤ l.length := by omega
        clear h3 h4
        go_upto_region 8 with fail
        obtain ⟨q, hq⟩ : ∃ q : Nat, e + 6 + s = q := ⟨_, rfl⟩
        have hqi : (e : Int) + 6 + (s : Int) = (q : Int) := by omega
        rw [hqi]
        have hby := HV.out.below (hbl.mono hK) (Nat.le_refl _)
        have hn1 : ∀ n, Calls Tryz.prog 42 #[.slice (va.map (·.add e)) 4 (cap - e)] (wr.drewN n) fun e' w' => e' = .returned (.int .i64 (leN ((l.drop e).take 4) : Nat)) ∧ wr.drewN n = w' :=
          fun n => number_ref K _ _ _ ((hby.sub e 4 (by omega)).drewN n) (by simp; omega)
        have hn2 : ∀ n, Calls Tryz.prog 42 #[.slice (va.map (·.add q)) 4 (cap - q)] (wr.drewN n) fun e' w' => e' = .returned (.int .i64 (leN ((l.drop q).take 4) : Nat)) ∧ wr.drewN n = w' :=
          fun n => number_ref K _ _ _ ((hby.sub q 4 (by omega)).drewN n) (by simp; omega)
        have hc : ∀ n, Calls Tryz.prog 10 #[.slice (va.map (·.add e)) (q - e) (cap - e)] (wr.drewN n) fun e' w' => e' = .returned (.int .i64 (chkM ((l.drop e).take (q - e)))) ∧ wr.drewN n = w' :=
          fun n => check_ref K _ _ _ ((hby.sub e (q - e) (by omega)).drewN n) (by simp; omega)
        obtain ⟨m, hm⟩ : ∃ m, leN ((l.drop e).take 4) = m := ⟨_, rfl⟩
        obtain ⟨t, ht⟩ : ∃ t, leN ((l.drop q).take 4) = t := ⟨_, rfl⟩
        have htS : Hid (chkM ((l.drop e).take (q - e)) = ((chk ((l.drop e).take (6 + s)) % 4294967296 : Nat) : Int)) := by
          unfold Hid chkM; rw [show q - e = 6 + s by omega]
        obtain ⟨S, hS⟩ : ∃ S, chkM ((l.drop e).take (q - e)) = S := ⟨_, rfl⟩
        rw [hm] at hn1; rw [ht] at hn2; rw [hS] at hc
        have HM := Lib.hid hm; have HT := Lib.hid ht; have HSS := Lib.hid hS
        have HN1 := Lib.hid hn1; have HN2 := Lib.hid hn2; have HC := Lib.hid hc
        have hb1 : (e : Int) ≤ (q : Int) := by omega
        have hb2 : (q : Int) + 4 ≤ (l.length : Int) := by omega
        have hb3 : (l.length : Int) ≤ (cap : Int) := by omega
        have hb4 : ¬ cap = e := by omega
        have hb5 : ¬ cap = q := by omega
        have HQ := Lib.hid hq
        have h2' : e + 10 + s ≤ l.length := h4'
        have hq0 : 6 ≤ q := by omega
        clear hm ht hS hn1 hn2 hc hq hqi h2'
        by_cases h5 : m ≠ ps.length + 1
        · have t5 : ((m : Int) != (ps.length : Int) + 1) = true := by rw [bne_iff_ne]; omega
          have hn : Hid (nextRec l ps.length e = none) := nextRec_sum (.inl (by rw [HM.out]; exact h5))
          clear h5
          go_quiet ((go_at_call 42; exact quiet_eq (HN1.out _)))
          go_wp2_with fail
          go_ret2
          have h := HDONE.out hn.out
          have hE : endOf (scanOf l) = e := by rw [← h]; exact HE.out
          rw [hE]
          exact ⟨_, rfl, h ▸ hts.below (below_drewN' nq) (Nat.le_refl _), hbl.trans (below_drewN' nq)⟩
        have t5 : ((m : Int) != (ps.length : Int) + 1) = false := by rw [bne_eq_false_iff_eq]; omega
        have h5' : Hid (m = ps.length + 1) := by unfold Hid; omega
        clear h5
        by_cases h6 : (t : Int) = S
        · have t6 : ((t : Int) != S) = false := by rw [bne_eq_false_iff_eq]; exact h6
          have hn : Hid (nextRec l ps.length e = some ((l.drop (e + 6)).take s)) := by
            unfold Hid
            have h := nextRec_some (l := l) (c := ps.length) (e := e) h1' (by rw [HS.out]; exact h3') (by rw [HS.out]; omega) (by rw [HM.out]; exact h5'.out) (by
              rw [HS.out, HQ.out, HT.out]; have := htS.out; rw [HSS.out] at this; omega)
            rw [h, HS.out]
          clear h6
          go_quiet (first | (go_at_call 42; first | with_reducible exact quiet_eq (HN1.out _) | with_reducible exact quiet_eq (HN2.out _)) | (go_at_call 10; first | with_reducible exact quiet_eq (HC.out _)))
          obtain ⟨W0, hW0⟩ : ∃ X, wr.drewN nq = X := ⟨_, rfl⟩
          have hts0 : OwnTs w.heap.size W0 (.slice pa ps.length pc) ps := hW0 ▸ hts.below (below_drewN' nq) (Nat.le_refl _)
          have hbl0 : Below w.heap.size w W0 := hW0 ▸ hbl.trans (below_drewN' nq)
          rw [hW0]
          clear hW0 hts hbl HN1 HN2 HC hby
          have hqe : q - (e + 6) = s := by have := HQ.out; omega
          have hqe1 : (e : Int) + 6 ≤ (q : Int) := by have := HQ.out; omega
          have hby0 := (HV.out.below (hbl0.mono hK) (Nat.le_refl _)).sub (e + 6) (q - (e + 6)) (by have := HQ.out; omega)
          rw [hqe] at hby0
          have hpl : ((l.drop (e + 6)).take s).length = s := by simp; omega
          obtain ⟨p, hp⟩ : ∃ p, (l.drop (e + 6)).take s = p := ⟨_, rfl⟩
          rw [hp] at hby0 hpl hn
          have hk0 : Below W0.heap.size W0 (W0.alloc (.cells #[] 5)) := (Below.refl _ _).alloc (Nat.le_refl _) _
          have hby1 := hby0.below (hk0.mono (by have := hbl0.size; omega)) (Nat.le_refl _)
          have hoe := ownB_empty' (base := W0.heap.size) W0 (Nat.le_refl _)
          have hsm : ([] : List UInt8).length + p.length ≤ 2 ^ 46 := by simp; omega
          have hs0 := hbl0.size
          have hs9 : W0.heap.size ≤ (W0.alloc (.cells #[] 5)).heap.size := by simp
          have h63 : ps.length ≤ 2 ^ 40 := by omega
          have HQE := Lib.hid hqe
          have HP := Lib.hid hp
          clear hk0 hby0 hp hqe
          go_wp2_with (first
            | (at_builtin; refine wpList_append_B rfl (.tmp 69) (.tmp 74) rfl rfl (by rw [← HQE.out]; rfl) hoe hby1 hsm hs9 ?_; intro v1 w1 ho1 hg1 hat1; have hg1' : W0.grownBy w1 (some W0.heap.size) := (World.grownBy_alloc W0 _ _).trans hg1; have hg : W0.grownBy w1 none := ⟨hg1'.os, hg1'.tape, hg1'.output, hg1'.size, fun k hk _ => hg1'.block k hk (by simp; omega)⟩; obtain ⟨ra, rn, rc, rfl⟩ := ownBlock_of_OwnB ho1; simp only [List.nil_append] at ho1)
            | (at_builtin; refine wpList_append_T rfl (.tmp 68) (.tmp 76) rfl W0 w1 rfl rfl hts0 hg ho1 hs0 h63 ?_; intro v2 w2 hts2 hg2; have hbl2 : Below w.heap.size w w2 := ((hbl0.trans (below_of_grown hg (fun k e => nomatch e) hs0)).alloc (by have := hg.size; omega) _).trans (below_of_grown hg2 (fun r hr => hts0.base_le hr) (by have := hg.size; simp; omega)); obtain ⟨xa, xn, xc, rfl⟩ := hts2.form))
          have hend : Hid (endOf (ps ++ [p]) = q + 4) := by
            unfold Hid; rw [endOf_snoc, HE.out, hpl]; have := HQ.out; omega
          refine ⟨⟨ps ++ [p], HRD.out.snoc (by rw [HE.out]; exact hn.out), ?_, hts2, hbl2⟩, ?_⟩
          · rw [hend.out]; go_num
          · have := HQ.out; simp [intOf]; omega
        · have t6 : ((t : Int) != S) = true := by rw [bne_iff_ne]; exact h6
          have hn : Hid (nextRec l ps.length e = none) := nextRec_sum (.inr (by
            rw [HS.out, HQ.out, HT.out]; intro h; apply h6; rw [← HSS.out, htS.out, h]))
          clear h6
          go_quiet (first | (go_at_call 42; first | with_reducible exact quiet_eq (HN1.out _) | with_reducible exact quiet_eq (HN2.out _)) | (go_at_call 10; first | with_reducible exact quiet_eq (HC.out _)))
          go_wp2_with fail
          go_ret2
          have h := HDONE.out hn.out
          have hE : endOf (scanOf l) = e := by rw [← h]; exact HE.out
          rw [hE]
          exact ⟨_, rfl, h ▸ hts.below (below_drewN' nq) (Nat.le_refl _), hbl.trans (below_drewN' nq)⟩
      · have t2 : decide ((10 : Int) ≤ (l.length : Int) - (e : Int)) = false := by simp; omega
        have hn : Hid (nextRec l ps.length e = none) := nextRec_many (.inr (by omega))
        clear h1 h2
        go_wp2_with fail
        go_ret2
        have h := HDONE.out hn.out
        have hE : endOf (scanOf l) = e := by rw [← h]; exact HE.out
        rw [hE]
        exact ⟨_, rfl, h ▸ hts, hbl⟩
    · have t1 : decide ((ps.length : Int) < (65536 : Int)) = false := by simp; omega
      have hn : Hid (nextRec l ps.length e = none) := nextRec_many (.inl (by omega))
      clear h1
      go_wp2_with fail
      go_ret2
      have h := HDONE.out hn.out
      have hE : endOf (scanOf l) = e := by rw [← h]; exact HE.out
      rw [hE]
      exact ⟨_, rfl, h ▸ hts, hbl⟩
end Go.Proofs.YtkdlimigepkepaaGreat
