/- GuardLast: the walk. No conditions beyond the readings of the arguments. Printed by tools/gen_gllast.py. -/
import Derived.Test.YthooiobhlbnaoaaGreatGlAwk
import Derived.Test.YthooiobhlbnaoaaGreatGaInF
import Derived.Test.YthooiobhlbnaoaaGreatGLastS
import Derived.Test.YthooiobhlbnaoaaGreatGLast1
import Derived.Test.YthooiobhlbnaoaaGreatGWQ
namespace Go.Proofs.YthooiobhlbnaoaaGreat
open Go.RowKit
open Go.Maps (Keyed)
set_option linter.unusedVariables false

section
variable (w : World) {ops : Array Oper} {rest : List Oper} {o : Oper} {a : Act} {Q : Exit → Act → World → Prop} {k : TypeId} {b m : Nat} {f : Lit → Option Value}
/-- A look into a map, where its guard lets it by. -/
theorem wpList_look_MG (hw : Region.wanted o (yielded ops a.tmps) = true) (mo x : Operand) (t : TypeId) (hop : o.op = Op.lookup t mo x false) (e : TypeId) (K : Keyed Tryz.prog k) (ht : Tryz.prog.underlying t = some (.map k e)) {z : Value} (hz : (zeroValue e).run Tryz.prog w = .ok z w)
    (hm : a.eval mo = .map (some b)) (h : MapIs w k b m f) (key : Value) (kl : Lit) (hx : a.eval x = key) (hkey : keyOf Tryz.prog k key = some kl) (v : Value) (hv : (f kl).getD z = v)
    (hK : wpList Tryz.prog ops Q rest (a.put o.dst v) w) : wpList Tryz.prog ops Q (o :: rest) a w := by
  refine wpList_want hw fun K' hK' => ?_
  have hr := h.look K ht hz hkey
  rw [hv] at hr
  unfold Oper.wp
  simp [execOp, hop, hm, hx, hr, Result.andThen]
  exact hK' _ _ hK
end

set_option maxRecDepth 100000 in
set_option maxHeartbeats 16000000 in
theorem gllast_any (K : Nat) (pn : ByteArray) (da ta : Option Addr) (dn dm tn tm : Nat) (vc : Value) (cs : List Gc) (nm : Str) (d kn : Int) (w : World) (h : Gls K w vc cs) (hnm : nm.length ≤ maxLen) (hK : K ≤ w.heap.size) :
    Calls Tryz.prog 9 #[.agg #[.string pn, .slice da dn dm, .slice ta tn tm, vc], S nm, .int .i64 d, .int .i64 kn] w fun e w' => e = .returned (.bool true) ∧ Below w.heap.size w w' := by
  obtain ⟨ca, cm, rfl, _, hcm⟩ := id h.form
  unfold maxLen at hcm
  obtain ⟨g, hg, hgi⟩ := id h
  have HH := Lib.hid h
  obtain ⟨n, hn⟩ : ∃ n, cs.length = n := ⟨_, rfl⟩
  have HN := Lib.hid hn
  rw [hn] at HH hg hgi ⊢
  obtain ⟨W1, hW1⟩ : ∃ W1, (((w.alloc (.cells #[.string pn, .slice da dn dm, .slice ta tn tm, .slice ca n cm] 85)).alloc (.cells #[S nm] 9)).alloc (.cells #[.int .i64 d] 3)).alloc (.cells #[.int .i64 kn] 3) = W1 := ⟨_, rfl⟩
  have b1 : Below w.heap.size w W1 := by rw [← hW1]; exact ((((Below.refl _ _).alloc (Nat.le_refl _) _).alloc (by simp) _).alloc (by simp; omega) _).alloc (by simp; omega) _
  have q1 : Blk W1 w.heap.size #[.string pn, .slice da dn dm, .slice ta tn tm, .slice ca n cm] 85 := by rw [← hW1]; exact (((Blk.new w _ _).alloc _).alloc _).alloc _
  have q2 : Blk W1 (w.heap.size + 1) #[S nm] 9 := by
    rw [← hW1]
    have := (((Blk.new (w.alloc (.cells #[.string pn, .slice da dn dm, .slice ta tn tm, .slice ca n cm] 85)) #[S nm] 9).alloc (.cells #[.int .i64 d] 3)).alloc (.cells #[.int .i64 kn] 3))
    rwa [World.size_alloc] at this
  have q3 : Blk W1 (w.heap.size + 2) #[.int .i64 d] 3 := by
    rw [← hW1]
    have := ((Blk.new ((w.alloc (.cells #[.string pn, .slice da dn dm, .slice ta tn tm, .slice ca n cm] 85)).alloc (.cells #[S nm] 9)) #[.int .i64 d] 3).alloc (.cells #[.int .i64 kn] 3))
    rwa [World.size_alloc, World.size_alloc] at this
  have q4 : Blk W1 (w.heap.size + 3) #[.int .i64 kn] 3 := by
    rw [← hW1]
    have := Blk.new (((w.alloc (.cells #[.string pn, .slice da dn dm, .slice ta tn tm, .slice ca n cm] 85)).alloc (.cells #[S nm] 9)).alloc (.cells #[.int .i64 d] 3)) #[.int .i64 kn] 3
    rwa [World.size_alloc, World.size_alloc, World.size_alloc] at this
  have s1 : W1.heap.size = w.heap.size + 4 := by rw [← hW1]; simp
  obtain ⟨B, hB⟩ : ∃ B, w.heap.size = B := ⟨_, rfl⟩
  have HB := Lib.hid hB
  have HW := Lib.hid hW1
  rw [hB] at hK b1 q1 q2 q3 q4 s1 ⊢
  obtain ⟨c0, c1, c2, c3⟩ := q1.four
  clear h hn hB hW1
  by_cases h60 : 60 < n
  · have e60 : decide ((60 : Int) < (n : Int)) = true := by simp; omega
    have haw := glawake_any W1
    go_enter Tryz.func9, Tryz.ntmps9
    go_upto_region 1 with fail
    simp only [HB.out]
    rw [HW.out]
    go_wp2_with fail
    refine haw.mono ?_
    rintro e w2 ⟨rfl, hb2⟩
    go_wp2_with fail
    go_ret
    exact ⟨rfl, b1.trans (hb2.mono (by omega))⟩
  · have e60 : decide ((60 : Int) < (n : Int)) = false := by simp; omega
    have hlen : cs.length ≤ 2 ^ 38 := by rw [HN.out]; omega
    have hin := inforce_any K pn (.slice da dn dm) (.slice ta tn tm) _ cs nm d kn W1 (HH.out.below b1 (by omega) (Nat.le_refl _)) rfl rfl (by omega) hlen hnm
    obtain ⟨L, hL⟩ : ∃ L, forceL cs nm d kn = L := ⟨_, rfl⟩
    rw [hL] at hin
    have HL := Lib.hid hL
    have d2 := q2.one.1
    have d3 := q3.one.1
    have d4 := q4.one.1
    have hmm := @run_makeMap Tryz.prog
    clear hlen hL
    go_enter Tryz.func9, Tryz.ntmps9
    go_upto_region 1 with fail
    simp only [HB.out]
    rw [HW.out]
    go_wp2_with fail
    refine hin.mono ?_
    rintro e w3 ⟨v3, rfl, ho3, hb3⟩
    obtain ⟨a3, c3', rfl, _⟩ := ho3.nats.form
    have hn3 := ho3.nats
    obtain ⟨M, hM⟩ : ∃ M, w3.heap.size = M := ⟨_, rfl⟩
    obtain ⟨W5, hW5⟩ : ∃ W5, w3.alloc (.map #[] 0) = W5 := ⟨_, rfl⟩
    have hbM : Below M w3 W5 := by rw [← hW5, ← hM]; exact (Below.refl _ _).alloc (Nat.le_refl _) _
    have m5 : MapIs W5 9 M 0 (fS (metV cs L 0)) := by
      rw [metV_zero, ← fS_none, ← hW5, ← hM]; exact MapIs.made w3 _
    have s5 : W5.heap.size = M + 1 := by rw [← hW5, ← hM]; simp
    have s3 : B + 4 ≤ M := by have := hb3.size; omega
    have b5 : Below B w W5 := b1.trans ((hb3.mono (by omega)).trans (hbM.mono (by omega)))
    replace q1 := (q1.below hb3 q1.lt).below hbM (by omega)
    replace q2 := (q2.below hb3 q2.lt).below hbM (by omega)
    replace q3 := (q3.below hb3 q3.lt).below hbM (by omega)
    replace q4 := (q4.below hb3 q4.lt).below hbM (by omega)
    have hnl : Nats M W5 (.slice a3 L.length c3') L := (hM ▸ hn3).below hbM (Nat.le_refl _) (Nat.le_refl _)
    have HW5 := Lib.hid hW5
    have HM := Lib.hid hM
    have HQ1 := Lib.hid q1
    have HQ2 := Lib.hid q2
    have HQ3 := Lib.hid q3
    have HQ4 := Lib.hid q4
    have HNL := Lib.hid hnl
    have HB5 := Lib.hid b5
    have HMM := Lib.hid m5
    have hLn : L.length ≤ n := by
      rw [← HL.out, ← HN.out]
      unfold forceL
      have := List.length_filter_le (forced cs nm d kn) (List.range cs.length)
      rwa [List.length_range] at this
    have hM2 : M < 2 ^ 62 ∨ True := .inr trivial
    clear hin c0 c1 c2 c3 d2 d3 d4 ho3 hn3 hW5 hM hb3 hbM b1 b5 q1 q2 q3 q4 hnl m5 e60 HW hM2
    have HCV : Hid (∀ (c : Cv) (W : World), Below M W5 W → c.nm.length ≤ maxLen → Calls Tryz.prog 40 #[.agg c.cl.toArray, .pointer (some ⟨B + 1, 0, none⟩), .pointer (some ⟨B + 2, 0, none⟩), .pointer (some ⟨B + 3, 0, none⟩)] W fun e w' => e = .returned (.bool (cov (gcOf c) nm d kn)) ∧ Below W.heap.size W w') := Lib.hid fun c W hW hc =>
      lastF_any 0 c nm d kn (B + 1) (B + 2) (B + 3) W hc hnm (HQ2.out.below hW (by omega)).one.1 (HQ3.out.below hW (by omega)).one.1 (HQ4.out.below hW (by omega)).one.1
    go_wp2_with fail
    rw [HW5.out]
    simp only [HM.out]
    go_loopw [35] (fun kv wr => ∃ (k m : Nat), k ≤ L.length ∧ kv = .int .i64 k ∧ m ≤ k ∧ MapIs wr 9 M m (fS (metV cs L k)) ∧ Below M W5 wr ∧ M + 1 ≤ wr.heap.size) (fun kv _ => L.length - (intOf kv).toNat)
    case atStart => exact ⟨0, 0, Nat.zero_le _, rfl, Nat.le_refl _, HMM.out, Below.refl _ _, by omega⟩
    case round =>
      obtain ⟨k, m, hk, rfl, hmk, hm, hbr, hsz⟩ := hrel
      obtain ⟨wo, rfl⟩ : ∃ wo : World, wo = wr := ⟨_, rfl⟩
      have HMo := Lib.hid hm
      clear hm
      obtain ⟨c0, c1, c2, c3⟩ := (HQ1.out.below hbr (by omega)).four
      by_cases hlt : k < L.length
      · obtain ⟨lb, lo, lcap, he, _, _, hlK, hlc⟩ := HNL.out.pos (by omega)
        simp only [Value.slice.injEq, true_and] at he
        obtain ⟨rfl, rfl⟩ := he
        obtain ⟨i, hi⟩ : ∃ i, L[k]? = some i := ⟨_, List.getElem?_eq_getElem hlt⟩
        have hz := (hbr.cell (p := ⟨lb, lo + k, none⟩) hlK).trans (hlc k hlt)
        rw [hi, Option.getD_some] at hz
        have hmem : i ∈ forceL cs nm d kn := by rw [HL.out]; exact List.mem_of_getElem? hi
        have HMEM := Lib.hid hmem
        obtain ⟨f1, f2, f3, _⟩ := forced_at hmem
        rw [HN.out] at f1
        obtain ⟨b, o, cap, he, _, _, hbK, hc⟩ := hg.pos (by omega)
        simp only [Value.slice.injEq, true_and] at he
        obtain ⟨rfl, rfl⟩ := he
        have HBO := Lib.hid (HB5.out.trans (hbr.mono (by omega)))
        have hcel := cells_below HBO.out (Nat.lt_of_lt_of_le hbK hK) hc
        have hcc := cl_range hcel f1
        obtain ⟨c, hcd⟩ : ∃ c, g i = c := ⟨_, rfl⟩
        have hgk := hgi i f1
        rw [hcd] at hcc hgk
        obtain ⟨hge, hnl, hll⟩ := hgk
        have n5 : wo.cell? ⟨b, o + i * 24 + 5, none⟩ = some (.bool false) := by
          have := hcel i f1 5 (by omega)
          rw [← Nat.add_assoc, hcd] at this
          rw [this, ← f2, ← hge]; rfl
        have n1 : wo.cell? ⟨b, o + i * 24 + 1, none⟩ = some (S c.lb) := by
          have := hcel i f1 1 (by omega)
          rw [← Nat.add_assoc, hcd] at this
          exact this
        have hcall := HCV.out c wo hbr hnl
        rw [hge, f3] at hcall
        have HGE := Lib.hid hge
        have HGC := Lib.hid hcd
        have e1 : decide ((i : Int) < 0) = false := by simp
        have e2 : decide (n ≤ i) = false := by simp; omega
        have HC := Lib.hid hc
        have HI := Lib.hid hi
        clear hcel hcd hge f2 f3 hmem hc hlc hi
        go_upto_region 10 with (refine wpList_load_midG (by kernel_rfl) 89 (.tmp 61) rfl b (o + i * 24) rfl c.cl _ hcc Tryz.underlying89 rfl (infoCl' c) ?_)
        refine hcall.mono ?_
        rintro e w6 ⟨rfl, b6⟩
        clear hcall hcc n5 e1 e2 hz
        have hm6 := HMo.out.below b6 (by omega)
        have br6 : Below M W5 w6 := hbr.trans (b6.mono (by omega))
        have s6 : M + 1 ≤ w6.heap.size := by have := b6.size; omega
        replace n1 := (b6.cell (p := ⟨b, o + i * 24 + 1, none⟩) (by show b < wo.heap.size; omega)).trans n1
        obtain ⟨c0, c1, c2, c3⟩ := (HQ1.out.below br6 (by omega)).four
        have hlbi : (gAt cs i).lb = c.lb := by rw [← HGE.out]; rfl
        have hv1 : Hid ((fS (metV cs L k) (.string c.lb)).getD (.int .i64 0) = .int .i64 0) := Lib.hid (by
          show (metV cs L k c.lb).getD _ = _
          have := metV_new (by rw [HL.out]; exact HI.out : (forceL cs nm d kn)[k]? = some i)
          rw [HL.out, hlbi] at this
          rw [this]; rfl)
        have HP : Hid (updF (metV cs L k) c.lb (.int .i64 1) = metV cs L (k + 1)) := Lib.hid (by
          have := metV_next (by rw [HL.out]; exact HI.out : (forceL cs nm d kn)[k]? = some i)
          rw [HL.out, hlbi] at this
          exact this)
        have hv2 : Hid ((fS (metV cs L (k + 1)) (.string c.lb)).getD (.int .i64 0) = .int .i64 1) := Lib.hid (by
          show (metV cs L (k + 1) c.lb).getD _ = _
          have := metV_some (by rw [HL.out]; exact HI.out : (forceL cs nm d kn)[k]? = some i)
          rw [HL.out, hlbi] at this
          rw [this]; rfl)
        have hml : m < maxLen := by unfold maxLen; omega
        clear hlbi
        have HM6 := Lib.hid hm6
        clear hm6
        go_upto_region 12 with (first
          | (at_lookup; refine wpList_look_M _ rfl _ _ 91 rfl _ keyS Tryz.underlying91 (Tryz.zeroValue3 _) rfl HM6.out _ (.string c.lb) rfl (keyOf_S c.lb hll) (.int .i64 0) hv1.out ?_)
          | (at_mapUpdate; refine wpList_put_M _ rfl _ _ _ 91 rfl _ keyS Tryz.underlying91 rfl HM6.out hml _ (.string c.lb) rfl (keyOf_S c.lb hll) (.int .i64 1) rfl ?_; intro w7 hm7 hg7))
        rw [upd_S, HP.out] at hm7
        have b67 : Below M w6 w7 := below_grown hg7 (fun r e => by cases e; exact Nat.le_refl _) (by omega)
        have s7 : M + 1 ≤ w7.heap.size := by have := b67.size; omega
        have br7 : Below M W5 w7 := br6.trans b67
        have BO7 : Below B w w7 := HB5.out.trans (br7.mono (by omega))
        replace n1 := (b67.cell (p := ⟨b, o + i * 24 + 1, none⟩) (by show b < M; omega)).trans n1
        obtain ⟨m7, hm7e, hmk7⟩ : ∃ m7, (if (fS (metV cs L k) (.string c.lb)).isSome then m else m + 1) = m7 ∧ m7 ≤ k + 1 := ⟨_, rfl, by split <;> omega⟩
        rw [hm7e] at hm7
        have HM7 := Lib.hid hm7
        clear hm7 hm7e HM6 HMo b67 hg7 hv1 HP br6
        obtain ⟨c0, c1, c2, c3⟩ := (HQ1.out.below br7 (by omega)).four
        go_frame
        go_upto_region 14 with (at_lookup; refine wpList_look_M _ rfl _ _ 91 rfl _ keyS Tryz.underlying91 (Tryz.zeroValue3 _) rfl HM7.out _ (.string c.lb) rfl (keyOf_S c.lb hll) (.int .i64 1) hv2.out ?_)
        clear n1 hv2
        go_wp2_with fail
        go_loopw [87] (fun jv wr => ∃ j : Nat, j ≤ n ∧ jv = .int .i64 j ∧ Below w7.heap.size w7 wr) (fun jv _ => n - (intOf jv).toNat)
        case atStart => exact ⟨0, Nat.zero_le _, rfl, Below.refl _ _⟩
        case round =>
          obtain ⟨j, hj, rfl, hbj⟩ := hrel
          obtain ⟨wi, rfl⟩ : ∃ wi : World, wi = wr := ⟨_, rfl⟩
          by_cases hlj : j < n
          · have sj := hbj.size
            have hcell := cells_below (BO7.trans (hbj.mono (by omega))) (Nat.lt_of_lt_of_le hbK hK) HC.out
            have hcc := cl_range hcell hlj
            obtain ⟨x, hxd⟩ : ∃ x, g j = x := ⟨_, rfl⟩
            have hgx := hgi j hlj
            rw [hxd] at hcc hgx
            obtain ⟨hxe, hxn, hxl⟩ := hgx
            obtain ⟨wx, hwx⟩ : ∃ wx, wi.alloc (.cells x.cl.toArray 89) = wx := ⟨_, rfl⟩
            obtain ⟨xb, hxb⟩ : ∃ xb, wi.heap.size = xb := ⟨_, rfl⟩
            have hqx : Blk wx xb x.cl.toArray 89 := by rw [← hwx, ← hxb]; exact Blk.new wi _ _
            have box : Below wi.heap.size wi wx := by rw [← hwx]; exact (Below.refl _ _).alloc (Nat.le_refl _) _
            have bwx : Below w7.heap.size w7 wx := hbj.trans (box.mono sj)
            have swx : wx.heap.size = xb + 1 := by rw [← hwx, ← hxb]; simp
            have sxb : w7.heap.size ≤ xb := by omega
            have HWX := Lib.hid hwx
            have HXB := Lib.hid hxb
            have HQX := Lib.hid hqx
            have HXE := Lib.hid hxe
            have BW := Lib.hid bwx
            clear hxd hwx hxb hqx box hcell hxe bwx
            go_upto_region 17 with (first
                | (refine wpList_load_mid rfl 89 (.tmp 90) rfl b (o + j * 24) rfl x.cl _ hcc Tryz.underlying89 rfl (infoCl' x) ?_)
                | (refine wpList_store_cl rfl (.tmp 15) (.tmp 91) rfl x _ (by rfl) rfl rfl ?_; rw [HWX.out, HXB.out]))
            clear hcc c0 c1 c2 c3
            go_frame
            have hbel : ∀ W', Below wx.heap.size wx W' → Below M W5 W' := fun W' hS => br7.trans ((BW.out.mono (by omega)).trans (hS.mono (by omega)))
            have HBEL := Lib.hid hbel
            have hcx : ∀ W' (hS : Below wx.heap.size wx W') i, i < 24 → W'.cell? ⟨xb, i, none⟩ = some (x.cell i) := fun W' hS i hi => (HQX.out.below hS HQX.out.lt).at (by rw [List.getElem?_toArray]; exact x.cl_at hi)
            have HCX := Lib.hid hcx
            have hci : ∀ W' (hS : Below wx.heap.size wx W') r, r < 24 → W'.cell? ⟨b, o + i * 24 + r, none⟩ = some (c.cell r) := fun W' hS r hr => by
              have hq := cells_below (HB5.out.trans ((HBEL.out W' hS).mono (by omega))) (Nat.lt_of_lt_of_le hbK hK) HC.out i f1 r hr
              rw [← Nat.add_assoc] at hq
              rw [hq]
              exact congrArg (fun z : Cv => some (z.cell r)) HGC.out
            have HCI := Lib.hid hci
            have HRX : Hid (∀ W', Below wx.heap.size wx W' → W'.rangeAt xb 0 x.cl) := Lib.hid fun W' hS => cl_own (HQX.out.below hS HQX.out.lt)
            have HPL : Hid (∀ W', Below wx.heap.size wx W' → W'.cell? ⟨B, 3, none⟩ = some (.slice (some ⟨b, o, none⟩) n cm)) := Lib.hid fun W' hS => (HQ1.out.below (HBEL.out W' hS) (by omega)).four.2.2.2
            have HCALL : Hid (∀ W', Below wx.heap.size wx W' → _) := Lib.hid fun W' hS => HCV.out x W' (HBEL.out W' hS) hxn
            clear hbel hcx hci
            obtain ⟨cx, hcxe⟩ : ∃ cx, cov (gcOf x) nm d kn = cx := ⟨_, rfl⟩
            rw [hcxe] at HCALL
            have HCX2 := Lib.hid hcxe
            obtain ⟨el, hel⟩ : ∃ el, (x.lb == c.lb) = el := ⟨_, rfl⟩
            have HLA : Hid (cx = true → el = true → x.kn ≤ c.kn ∧ (x.kn = c.kn → j ≤ i)) := Lib.hid fun h1 h2 => by
              have hl : (gAt cs j).lb = (gAt cs i).lb := by
                rw [← HXE.out, ← HGE.out]
                exact eq_of_beq (hel.trans h2)
              have := last_of HMEM.out (by rw [HN.out]; exact hlj) (by rw [← HXE.out, HCX2.out]; exact h1) hl
              rw [← HXE.out, ← HGE.out] at this
              exact this
            have hiI : (i : Int) < (n : Int) := by omega
            have SWX := Lib.hid swx
            clear hcxe swx
            refine region_WQ (fun W' => Below wx.heap.size wx W') (by kernel_rfl) (by kernel_rfl) ⟨rfl, rfl, rfl, Nat.le_refl _, fun _ _ => rfl⟩ ?_
            cases cx with
            | false =>
              refine WQ.take (.func (.func 40) #[] #[.pointer (some ⟨B + 1, 0, none⟩), .pointer (some ⟨B + 2, 0, none⟩), .pointer (some ⟨B + 3, 0, none⟩)]) (.inl ⟨by kernel_rfl, fun W' hS => by go_simp <;> exact hS⟩) ?_
              refine WQ.take (.agg x.cl.toArray) (yieldsIn_of_if (yieldsIf_load_mid (by kernel_rfl) 89 (.tmp 15) rfl xb 0 (by rfl) x.cl _ (fun W' hS => HRX.out W' hS) Tryz.underlying89 rfl (infoCl' x))) ?_
              refine WQ.take (.bool false) (.inl ⟨by kernel_rfl, fun W' hS => by go_simp <;> exact (HCALL.out W' hS).mono fun e W'' ⟨h1, h2⟩ => ⟨h1, hS.trans (h2.mono hS.size)⟩⟩) ?_
              refine WQ.take (.bool false) (.inl ⟨by kernel_rfl, fun W' hS => by go_simp <;> exact hS⟩) ?_
              refine WQ.take undef (.inr ⟨by kernel_rfl, rfl⟩) ?_
              refine WQ.take undef (.inr ⟨by kernel_rfl, rfl⟩) ?_
              refine WQ.take undef (.inr ⟨by kernel_rfl, rfl⟩) ?_
              refine WQ.take undef (.inr ⟨by kernel_rfl, rfl⟩) ?_
              refine WQ.take undef (.inr ⟨by kernel_rfl, rfl⟩) ?_
              refine WQ.take undef (.inr ⟨by kernel_rfl, rfl⟩) ?_
              refine WQ.take undef (.inr ⟨by kernel_rfl, rfl⟩) ?_
              refine WQ.take undef (.inr ⟨by kernel_rfl, rfl⟩) ?_
              refine WQ.take undef (.inr ⟨by kernel_rfl, rfl⟩) ?_
              refine WQ.take (.bool false) (.inl ⟨by kernel_rfl, fun W' hS => by go_simp <;> exact hS⟩) ?_
              refine WQ.take (.bool false) (.inl ⟨by kernel_rfl, fun W' hS => by go_simp <;> exact hS⟩) ?_
              refine WQ.take undef (.inr ⟨by kernel_rfl, rfl⟩) ?_
              refine WQ.take undef (.inr ⟨by kernel_rfl, rfl⟩) ?_
              refine WQ.take undef (.inr ⟨by kernel_rfl, rfl⟩) ?_
              refine WQ.take undef (.inr ⟨by kernel_rfl, rfl⟩) ?_
              refine WQ.take undef (.inr ⟨by kernel_rfl, rfl⟩) ?_
              refine WQ.take undef (.inr ⟨by kernel_rfl, rfl⟩) ?_
              refine WQ.take undef (.inr ⟨by kernel_rfl, rfl⟩) ?_
              refine WQ.take undef (.inr ⟨by kernel_rfl, rfl⟩) ?_
              refine WQ.take undef (.inr ⟨by kernel_rfl, rfl⟩) ?_
              refine WQ.take undef (.inr ⟨by kernel_rfl, rfl⟩) ?_
              refine WQ.take undef (.inr ⟨by kernel_rfl, rfl⟩) ?_
              refine WQ.take undef (.inr ⟨by kernel_rfl, rfl⟩) ?_
              refine WQ.take undef (.inr ⟨by kernel_rfl, rfl⟩) ?_
              refine WQ.take undef (.inr ⟨by kernel_rfl, rfl⟩) ?_
              refine WQ.take undef (.inr ⟨by kernel_rfl, rfl⟩) ?_
              refine WQ.take undef (.inr ⟨by kernel_rfl, rfl⟩) ?_
              refine WQ.take undef (.inr ⟨by kernel_rfl, rfl⟩) ?_
              refine WQ.take undef (.inr ⟨by kernel_rfl, rfl⟩) ?_
              refine WQ.take undef (.inr ⟨by kernel_rfl, rfl⟩) ?_
              refine WQ.take undef (.inr ⟨by kernel_rfl, rfl⟩) ?_
              refine WQ.take undef (.inr ⟨by kernel_rfl, rfl⟩) ?_
              refine WQ.take undef (.inr ⟨by kernel_rfl, rfl⟩) ?_
              refine WQ.take undef (.inr ⟨by kernel_rfl, rfl⟩) ?_
              refine WQ.take undef (.inr ⟨by kernel_rfl, rfl⟩) ?_
              refine WQ.take undef (.inr ⟨by kernel_rfl, rfl⟩) ?_
              refine WQ.take (.bool false) (.inl ⟨by kernel_rfl, fun W' hS => by go_simp <;> exact hS⟩) ?_
              refine WQ.nil ?_
              intro W9 hS9
              have hb9 : Below w7.heap.size w7 W9 := BW.out.trans (hS9.mono (by have := SWX.out; omega))
              clear hS9
              go_simp
              iterate 14 go_step
              change _ ∧ _
              go_roundw
              case rel => exact ⟨j + 1, by omega, by simp, hb9⟩
              case measure => simp [intOf]; omega
            | true =>
              cases el with
              | false =>
                refine WQ.take (.func (.func 40) #[] #[.pointer (some ⟨B + 1, 0, none⟩), .pointer (some ⟨B + 2, 0, none⟩), .pointer (some ⟨B + 3, 0, none⟩)]) (.inl ⟨by kernel_rfl, fun W' hS => by go_simp <;> exact hS⟩) ?_
                refine WQ.take (.agg x.cl.toArray) (yieldsIn_of_if (yieldsIf_load_mid (by kernel_rfl) 89 (.tmp 15) rfl xb 0 (by rfl) x.cl _ (fun W' hS => HRX.out W' hS) Tryz.underlying89 rfl (infoCl' x))) ?_
                refine WQ.take (.bool true) (.inl ⟨by kernel_rfl, fun W' hS => by go_simp <;> exact (HCALL.out W' hS).mono fun e W'' ⟨h1, h2⟩ => ⟨h1, hS.trans (h2.mono hS.size)⟩⟩) ?_
                refine WQ.take (.bool true) (.inl ⟨by kernel_rfl, fun W' hS => by go_simp <;> exact hS⟩) ?_
                refine WQ.take (.pointer (some ⟨xb, 1, none⟩)) (.inl ⟨by kernel_rfl, fun W' hS => by go_simp <;> exact hS⟩) ?_
                refine WQ.take (S x.lb) (.inl ⟨by kernel_rfl, fun W' hS => by have u := HCX.out W' hS 1 (by omega); simp only [Cv.cell] at u; go_simp <;> exact hS⟩) ?_
                refine WQ.take (.pointer (some ⟨B, 3, none⟩)) (.inl ⟨by kernel_rfl, fun W' hS => by go_simp <;> exact hS⟩) ?_
                refine WQ.take (.slice (some ⟨b, o, none⟩) n cm) (.inl ⟨by kernel_rfl, fun W' hS => by have u := HPL.out W' hS; go_simp <;> exact hS⟩) ?_
                refine WQ.take (.int .i64 i) (.inl ⟨by kernel_rfl, fun W' hS => by go_simp <;> exact hS⟩) ?_
                refine WQ.take (.pointer (some ⟨b, o + i * 24, none⟩)) (.inl ⟨by kernel_rfl, fun W' hS => by go_simp <;> exact hS⟩) ?_
                refine WQ.take (.pointer (some ⟨b, o + i * 24 + 1, none⟩)) (.inl ⟨by kernel_rfl, fun W' hS => by go_simp <;> exact hS⟩) ?_
                refine WQ.take (S c.lb) (.inl ⟨by kernel_rfl, fun W' hS => by have u := HCI.out W' hS 1 (by omega); simp only [Cv.cell] at u; go_simp <;> exact hS⟩) ?_
                refine WQ.take (.bool false) (.inl ⟨by kernel_rfl, fun W' hS => by go_simp <;> exact hS⟩) ?_
                refine WQ.take (.bool false) (.inl ⟨by kernel_rfl, fun W' hS => by go_simp <;> exact hS⟩) ?_
                refine WQ.take (.bool false) (.inl ⟨by kernel_rfl, fun W' hS => by go_simp <;> exact hS⟩) ?_
                refine WQ.take undef (.inr ⟨by kernel_rfl, rfl⟩) ?_
                refine WQ.take undef (.inr ⟨by kernel_rfl, rfl⟩) ?_
                refine WQ.take undef (.inr ⟨by kernel_rfl, rfl⟩) ?_
                refine WQ.take undef (.inr ⟨by kernel_rfl, rfl⟩) ?_
                refine WQ.take undef (.inr ⟨by kernel_rfl, rfl⟩) ?_
                refine WQ.take undef (.inr ⟨by kernel_rfl, rfl⟩) ?_
                refine WQ.take undef (.inr ⟨by kernel_rfl, rfl⟩) ?_
                refine WQ.take undef (.inr ⟨by kernel_rfl, rfl⟩) ?_
                refine WQ.take undef (.inr ⟨by kernel_rfl, rfl⟩) ?_
                refine WQ.take undef (.inr ⟨by kernel_rfl, rfl⟩) ?_
                refine WQ.take undef (.inr ⟨by kernel_rfl, rfl⟩) ?_
                refine WQ.take undef (.inr ⟨by kernel_rfl, rfl⟩) ?_
                refine WQ.take undef (.inr ⟨by kernel_rfl, rfl⟩) ?_
                refine WQ.take undef (.inr ⟨by kernel_rfl, rfl⟩) ?_
                refine WQ.take undef (.inr ⟨by kernel_rfl, rfl⟩) ?_
                refine WQ.take undef (.inr ⟨by kernel_rfl, rfl⟩) ?_
                refine WQ.take undef (.inr ⟨by kernel_rfl, rfl⟩) ?_
                refine WQ.take undef (.inr ⟨by kernel_rfl, rfl⟩) ?_
                refine WQ.take undef (.inr ⟨by kernel_rfl, rfl⟩) ?_
                refine WQ.take undef (.inr ⟨by kernel_rfl, rfl⟩) ?_
                refine WQ.take undef (.inr ⟨by kernel_rfl, rfl⟩) ?_
                refine WQ.take undef (.inr ⟨by kernel_rfl, rfl⟩) ?_
                refine WQ.take undef (.inr ⟨by kernel_rfl, rfl⟩) ?_
                refine WQ.take undef (.inr ⟨by kernel_rfl, rfl⟩) ?_
                refine WQ.take undef (.inr ⟨by kernel_rfl, rfl⟩) ?_
                refine WQ.take (.bool false) (.inl ⟨by kernel_rfl, fun W' hS => by go_simp <;> exact hS⟩) ?_
                refine WQ.nil ?_
                intro W9 hS9
                have hb9 : Below w7.heap.size w7 W9 := BW.out.trans (hS9.mono (by have := SWX.out; omega))
                clear hS9
                go_simp
                iterate 14 go_step
                change _ ∧ _
                go_roundw
                case rel => exact ⟨j + 1, by omega, by simp, hb9⟩
                case measure => simp [intOf]; omega
              | true =>
                obtain ⟨k1, k2⟩ := HLA.out rfl rfl
                have e1 : decide (c.kn < x.kn) = false := by simp; omega
                by_cases hke : x.kn = c.kn
                · have e2 : (x.kn == c.kn) = true := by simp [hke]
                  have e3 : j ≤ i := k2 hke
                  have HKE := Lib.hid hke
                  clear hke k1 k2
                  refine WQ.take (.func (.func 40) #[] #[.pointer (some ⟨B + 1, 0, none⟩), .pointer (some ⟨B + 2, 0, none⟩), .pointer (some ⟨B + 3, 0, none⟩)]) (.inl ⟨by kernel_rfl, fun W' hS => by go_simp <;> exact hS⟩) ?_
                  refine WQ.take (.agg x.cl.toArray) (yieldsIn_of_if (yieldsIf_load_mid (by kernel_rfl) 89 (.tmp 15) rfl xb 0 (by rfl) x.cl _ (fun W' hS => HRX.out W' hS) Tryz.underlying89 rfl (infoCl' x))) ?_
                  refine WQ.take (.bool true) (.inl ⟨by kernel_rfl, fun W' hS => by go_simp <;> exact (HCALL.out W' hS).mono fun e W'' ⟨h1, h2⟩ => ⟨h1, hS.trans (h2.mono hS.size)⟩⟩) ?_
                  refine WQ.take (.bool true) (.inl ⟨by kernel_rfl, fun W' hS => by go_simp <;> exact hS⟩) ?_
                  refine WQ.take (.pointer (some ⟨xb, 1, none⟩)) (.inl ⟨by kernel_rfl, fun W' hS => by go_simp <;> exact hS⟩) ?_
                  refine WQ.take (S x.lb) (.inl ⟨by kernel_rfl, fun W' hS => by have u := HCX.out W' hS 1 (by omega); simp only [Cv.cell] at u; go_simp <;> exact hS⟩) ?_
                  refine WQ.take (.pointer (some ⟨B, 3, none⟩)) (.inl ⟨by kernel_rfl, fun W' hS => by go_simp <;> exact hS⟩) ?_
                  refine WQ.take (.slice (some ⟨b, o, none⟩) n cm) (.inl ⟨by kernel_rfl, fun W' hS => by have u := HPL.out W' hS; go_simp <;> exact hS⟩) ?_
                  refine WQ.take (.int .i64 i) (.inl ⟨by kernel_rfl, fun W' hS => by go_simp <;> exact hS⟩) ?_
                  refine WQ.take (.pointer (some ⟨b, o + i * 24, none⟩)) (.inl ⟨by kernel_rfl, fun W' hS => by go_simp <;> exact hS⟩) ?_
                  refine WQ.take (.pointer (some ⟨b, o + i * 24 + 1, none⟩)) (.inl ⟨by kernel_rfl, fun W' hS => by go_simp <;> exact hS⟩) ?_
                  refine WQ.take (S c.lb) (.inl ⟨by kernel_rfl, fun W' hS => by have u := HCI.out W' hS 1 (by omega); simp only [Cv.cell] at u; go_simp <;> exact hS⟩) ?_
                  refine WQ.take (.bool true) (.inl ⟨by kernel_rfl, fun W' hS => by go_simp <;> exact hS⟩) ?_
                  refine WQ.take (.bool true) (.inl ⟨by kernel_rfl, fun W' hS => by go_simp <;> exact hS⟩) ?_
                  refine WQ.take (.bool true) (.inl ⟨by kernel_rfl, fun W' hS => by go_simp <;> exact hS⟩) ?_
                  refine WQ.take (.pointer (some ⟨xb, 4, none⟩)) (.inl ⟨by kernel_rfl, fun W' hS => by go_simp <;> exact hS⟩) ?_
                  refine WQ.take (.int .i64 x.kn) (.inl ⟨by kernel_rfl, fun W' hS => by have u := HCX.out W' hS 4 (by omega); simp only [Cv.cell] at u; go_simp <;> exact hS⟩) ?_
                  refine WQ.take (.pointer (some ⟨B, 3, none⟩)) (.inl ⟨by kernel_rfl, fun W' hS => by go_simp <;> exact hS⟩) ?_
                  refine WQ.take (.slice (some ⟨b, o, none⟩) n cm) (.inl ⟨by kernel_rfl, fun W' hS => by have u := HPL.out W' hS; go_simp <;> exact hS⟩) ?_
                  refine WQ.take (.int .i64 i) (.inl ⟨by kernel_rfl, fun W' hS => by go_simp <;> exact hS⟩) ?_
                  refine WQ.take (.pointer (some ⟨b, o + i * 24, none⟩)) (.inl ⟨by kernel_rfl, fun W' hS => by go_simp <;> exact hS⟩) ?_
                  refine WQ.take (.pointer (some ⟨b, o + i * 24 + 4, none⟩)) (.inl ⟨by kernel_rfl, fun W' hS => by go_simp <;> exact hS⟩) ?_
                  refine WQ.take (.int .i64 c.kn) (.inl ⟨by kernel_rfl, fun W' hS => by have u := HCI.out W' hS 4 (by omega); simp only [Cv.cell] at u; go_simp <;> exact hS⟩) ?_
                  refine WQ.take (.bool false) (.inl ⟨by kernel_rfl, fun W' hS => by go_simp <;> exact hS⟩) ?_
                  refine WQ.take (.bool false) (.inl ⟨by kernel_rfl, fun W' hS => by go_simp <;> exact hS⟩) ?_
                  refine WQ.take (.pointer (some ⟨xb, 4, none⟩)) (.inl ⟨by kernel_rfl, fun W' hS => by go_simp <;> exact hS⟩) ?_
                  refine WQ.take (.int .i64 x.kn) (.inl ⟨by kernel_rfl, fun W' hS => by have u := HCX.out W' hS 4 (by omega); simp only [Cv.cell] at u; go_simp <;> exact hS⟩) ?_
                  refine WQ.take (.pointer (some ⟨B, 3, none⟩)) (.inl ⟨by kernel_rfl, fun W' hS => by go_simp <;> exact hS⟩) ?_
                  refine WQ.take (.slice (some ⟨b, o, none⟩) n cm) (.inl ⟨by kernel_rfl, fun W' hS => by have u := HPL.out W' hS; go_simp <;> exact hS⟩) ?_
                  refine WQ.take (.int .i64 i) (.inl ⟨by kernel_rfl, fun W' hS => by go_simp <;> exact hS⟩) ?_
                  refine WQ.take (.pointer (some ⟨b, o + i * 24, none⟩)) (.inl ⟨by kernel_rfl, fun W' hS => by go_simp <;> exact hS⟩) ?_
                  refine WQ.take (.pointer (some ⟨b, o + i * 24 + 4, none⟩)) (.inl ⟨by kernel_rfl, fun W' hS => by go_simp <;> exact hS⟩) ?_
                  refine WQ.take (.int .i64 c.kn) (.inl ⟨by kernel_rfl, fun W' hS => by have u := HCI.out W' hS 4 (by omega); simp only [Cv.cell] at u; go_simp <;> exact hS⟩) ?_
                  refine WQ.take (.bool true) (.inl ⟨by kernel_rfl, fun W' hS => by go_simp <;> exact hS⟩) ?_
                  refine WQ.take (.bool true) (.inl ⟨by kernel_rfl, fun W' hS => by go_simp <;> exact hS⟩) ?_
                  refine WQ.take (.int .i64 j) (.inl ⟨by kernel_rfl, fun W' hS => by go_simp <;> exact hS⟩) ?_
                  refine WQ.take (.int .i64 i) (.inl ⟨by kernel_rfl, fun W' hS => by go_simp <;> exact hS⟩) ?_
                  refine WQ.take (.bool false) (.inl ⟨by kernel_rfl, fun W' hS => by go_simp <;> first | exact hS | exact e3⟩) ?_
                  refine WQ.take (.bool false) (.inl ⟨by kernel_rfl, fun W' hS => by go_simp <;> exact hS⟩) ?_
                  refine WQ.take (.bool false) (.inl ⟨by kernel_rfl, fun W' hS => by go_simp <;> exact hS⟩) ?_
                  refine WQ.take (.bool false) (.inl ⟨by kernel_rfl, fun W' hS => by go_simp <;> exact hS⟩) ?_
                  refine WQ.nil ?_
                  intro W9 hS9
                  have hb9 : Below w7.heap.size w7 W9 := BW.out.trans (hS9.mono (by have := SWX.out; omega))
                  clear hS9
                  go_simp
                  iterate 14 go_step
                  change _ ∧ _
                  go_roundw
                  case rel => exact ⟨j + 1, by omega, by simp, hb9⟩
                  case measure => simp [intOf]; omega
                · have e2 : (x.kn == c.kn) = false := by simp [hke]
                  clear hke k1 k2
                  refine WQ.take (.func (.func 40) #[] #[.pointer (some ⟨B + 1, 0, none⟩), .pointer (some ⟨B + 2, 0, none⟩), .pointer (some ⟨B + 3, 0, none⟩)]) (.inl ⟨by kernel_rfl, fun W' hS => by go_simp <;> exact hS⟩) ?_
                  refine WQ.take (.agg x.cl.toArray) (yieldsIn_of_if (yieldsIf_load_mid (by kernel_rfl) 89 (.tmp 15) rfl xb 0 (by rfl) x.cl _ (fun W' hS => HRX.out W' hS) Tryz.underlying89 rfl (infoCl' x))) ?_
                  refine WQ.take (.bool true) (.inl ⟨by kernel_rfl, fun W' hS => by go_simp <;> exact (HCALL.out W' hS).mono fun e W'' ⟨h1, h2⟩ => ⟨h1, hS.trans (h2.mono hS.size)⟩⟩) ?_
                  refine WQ.take (.bool true) (.inl ⟨by kernel_rfl, fun W' hS => by go_simp <;> exact hS⟩) ?_
                  refine WQ.take (.pointer (some ⟨xb, 1, none⟩)) (.inl ⟨by kernel_rfl, fun W' hS => by go_simp <;> exact hS⟩) ?_
                  refine WQ.take (S x.lb) (.inl ⟨by kernel_rfl, fun W' hS => by have u := HCX.out W' hS 1 (by omega); simp only [Cv.cell] at u; go_simp <;> exact hS⟩) ?_
                  refine WQ.take (.pointer (some ⟨B, 3, none⟩)) (.inl ⟨by kernel_rfl, fun W' hS => by go_simp <;> exact hS⟩) ?_
                  refine WQ.take (.slice (some ⟨b, o, none⟩) n cm) (.inl ⟨by kernel_rfl, fun W' hS => by have u := HPL.out W' hS; go_simp <;> exact hS⟩) ?_
                  refine WQ.take (.int .i64 i) (.inl ⟨by kernel_rfl, fun W' hS => by go_simp <;> exact hS⟩) ?_
                  refine WQ.take (.pointer (some ⟨b, o + i * 24, none⟩)) (.inl ⟨by kernel_rfl, fun W' hS => by go_simp <;> exact hS⟩) ?_
                  refine WQ.take (.pointer (some ⟨b, o + i * 24 + 1, none⟩)) (.inl ⟨by kernel_rfl, fun W' hS => by go_simp <;> exact hS⟩) ?_
                  refine WQ.take (S c.lb) (.inl ⟨by kernel_rfl, fun W' hS => by have u := HCI.out W' hS 1 (by omega); simp only [Cv.cell] at u; go_simp <;> exact hS⟩) ?_
                  refine WQ.take (.bool true) (.inl ⟨by kernel_rfl, fun W' hS => by go_simp <;> exact hS⟩) ?_
                  refine WQ.take (.bool true) (.inl ⟨by kernel_rfl, fun W' hS => by go_simp <;> exact hS⟩) ?_
                  refine WQ.take (.bool true) (.inl ⟨by kernel_rfl, fun W' hS => by go_simp <;> exact hS⟩) ?_
                  refine WQ.take (.pointer (some ⟨xb, 4, none⟩)) (.inl ⟨by kernel_rfl, fun W' hS => by go_simp <;> exact hS⟩) ?_
                  refine WQ.take (.int .i64 x.kn) (.inl ⟨by kernel_rfl, fun W' hS => by have u := HCX.out W' hS 4 (by omega); simp only [Cv.cell] at u; go_simp <;> exact hS⟩) ?_
                  refine WQ.take (.pointer (some ⟨B, 3, none⟩)) (.inl ⟨by kernel_rfl, fun W' hS => by go_simp <;> exact hS⟩) ?_
                  refine WQ.take (.slice (some ⟨b, o, none⟩) n cm) (.inl ⟨by kernel_rfl, fun W' hS => by have u := HPL.out W' hS; go_simp <;> exact hS⟩) ?_
                  refine WQ.take (.int .i64 i) (.inl ⟨by kernel_rfl, fun W' hS => by go_simp <;> exact hS⟩) ?_
                  refine WQ.take (.pointer (some ⟨b, o + i * 24, none⟩)) (.inl ⟨by kernel_rfl, fun W' hS => by go_simp <;> exact hS⟩) ?_
                  refine WQ.take (.pointer (some ⟨b, o + i * 24 + 4, none⟩)) (.inl ⟨by kernel_rfl, fun W' hS => by go_simp <;> exact hS⟩) ?_
                  refine WQ.take (.int .i64 c.kn) (.inl ⟨by kernel_rfl, fun W' hS => by have u := HCI.out W' hS 4 (by omega); simp only [Cv.cell] at u; go_simp <;> exact hS⟩) ?_
                  refine WQ.take (.bool false) (.inl ⟨by kernel_rfl, fun W' hS => by go_simp <;> exact hS⟩) ?_
                  refine WQ.take (.bool false) (.inl ⟨by kernel_rfl, fun W' hS => by go_simp <;> exact hS⟩) ?_
                  refine WQ.take (.pointer (some ⟨xb, 4, none⟩)) (.inl ⟨by kernel_rfl, fun W' hS => by go_simp <;> exact hS⟩) ?_
                  refine WQ.take (.int .i64 x.kn) (.inl ⟨by kernel_rfl, fun W' hS => by have u := HCX.out W' hS 4 (by omega); simp only [Cv.cell] at u; go_simp <;> exact hS⟩) ?_
                  refine WQ.take (.pointer (some ⟨B, 3, none⟩)) (.inl ⟨by kernel_rfl, fun W' hS => by go_simp <;> exact hS⟩) ?_
                  refine WQ.take (.slice (some ⟨b, o, none⟩) n cm) (.inl ⟨by kernel_rfl, fun W' hS => by have u := HPL.out W' hS; go_simp <;> exact hS⟩) ?_
                  refine WQ.take (.int .i64 i) (.inl ⟨by kernel_rfl, fun W' hS => by go_simp <;> exact hS⟩) ?_
                  refine WQ.take (.pointer (some ⟨b, o + i * 24, none⟩)) (.inl ⟨by kernel_rfl, fun W' hS => by go_simp <;> exact hS⟩) ?_
                  refine WQ.take (.pointer (some ⟨b, o + i * 24 + 4, none⟩)) (.inl ⟨by kernel_rfl, fun W' hS => by go_simp <;> exact hS⟩) ?_
                  refine WQ.take (.int .i64 c.kn) (.inl ⟨by kernel_rfl, fun W' hS => by have u := HCI.out W' hS 4 (by omega); simp only [Cv.cell] at u; go_simp <;> exact hS⟩) ?_
                  refine WQ.take (.bool false) (.inl ⟨by kernel_rfl, fun W' hS => by go_simp <;> exact hS⟩) ?_
                  refine WQ.take (.bool false) (.inl ⟨by kernel_rfl, fun W' hS => by go_simp <;> exact hS⟩) ?_
                  refine WQ.take undef (.inr ⟨by kernel_rfl, rfl⟩) ?_
                  refine WQ.take undef (.inr ⟨by kernel_rfl, rfl⟩) ?_
                  refine WQ.take undef (.inr ⟨by kernel_rfl, rfl⟩) ?_
                  refine WQ.take (.bool false) (.inl ⟨by kernel_rfl, fun W' hS => by go_simp <;> exact hS⟩) ?_
                  refine WQ.take (.bool false) (.inl ⟨by kernel_rfl, fun W' hS => by go_simp <;> exact hS⟩) ?_
                  refine WQ.take (.bool false) (.inl ⟨by kernel_rfl, fun W' hS => by go_simp <;> exact hS⟩) ?_
                  refine WQ.nil ?_
                  intro W9 hS9
                  have hb9 : Below w7.heap.size w7 W9 := BW.out.trans (hS9.mono (by have := SWX.out; omega))
                  clear hS9
                  go_simp
                  iterate 14 go_step
                  change _ ∧ _
                  go_roundw
                  case rel => exact ⟨j + 1, by omega, by simp, hb9⟩
                  case measure => simp [intOf]; omega
          · obtain rfl : j = n := by omega
            have hmj := HM7.out.below hbj (by omega)
            have hrj : Below M W5 wi := br7.trans (hbj.mono (by omega))
            have hsj : M + 1 ≤ wi.heap.size := by have := hbj.size; omega
            go_wp2_with fail
            exact ⟨⟨k + 1, m7, by omega, by go_num, by omega, hmj, hrj, hsj⟩, by simp [intOf]; omega⟩
      · obtain rfl : k = L.length := by omega
        go_wp2_with fail
        have hwl : MapIs wo 9 M m (fS (metV cs L L.length)) := HMo.out
        have BO : Below B w wo := HB5.out.trans (hbr.mono (by omega))
        have HBO := Lib.hid BO
        have MLT := hwl.lt
        clear hwl BO
        go_loopw [138] (fun jv wr => ∃ j : Nat, j ≤ n ∧ jv = .int .i64 j ∧ Below wo.heap.size wo wr) (fun jv _ => n - (intOf jv).toNat)
        case atStart => exact ⟨0, Nat.zero_le _, rfl, Below.refl _ _⟩
        case round =>
          obtain ⟨i, hi, rfl, hbi⟩ := hrel
          obtain ⟨wi, rfl⟩ : ∃ wi : World, wi = wr := ⟨_, rfl⟩
          have si := hbi.size
          clear c0 c1 c2 c3
          by_cases hli : i < n
          · obtain ⟨b, o, cap, he, _, _, hbK, hc⟩ := hg.pos (by omega)
            simp only [Value.slice.injEq, true_and] at he
            obtain ⟨rfl, rfl⟩ := he
            have hcell := cells_below (HBO.out.trans (hbi.mono (by omega))) (Nat.lt_of_lt_of_le hbK hK) hc
            have hcc := cl_range hcell hli
            obtain ⟨c, hcd⟩ : ∃ c, g i = c := ⟨_, rfl⟩
            have hgk := hgi i hli
            rw [hcd] at hcc hgk
            obtain ⟨hge, hnl, hll⟩ := hgk
            obtain ⟨wc, hwc⟩ : ∃ wc, wi.alloc (.cells c.cl.toArray 89) = wc := ⟨_, rfl⟩
            obtain ⟨cb, hcb⟩ : ∃ cb, wi.heap.size = cb := ⟨_, rfl⟩
            have hqc : Blk wc cb c.cl.toArray 89 := by rw [← hwc, ← hcb]; exact Blk.new wi _ _
            have boc : Below wi.heap.size wi wc := by rw [← hwc]; exact (Below.refl _ _).alloc (Nat.le_refl _) _
            have bwc : Below wo.heap.size wo wc := hbi.trans (boc.mono si)
            have swc : wc.heap.size = cb + 1 := by rw [← hwc, ← hcb]; simp
            have scb : wo.heap.size ≤ cb := by omega
            have hcc1 := cl_own hqc
            have hcall := HCV.out c wc (hbr.trans (bwc.mono (by omega))) hnl
            obtain ⟨cv, hcv⟩ : ∃ cv, cov (gcOf c) nm d kn = cv := ⟨_, rfl⟩
            rw [hcv] at hcall
            have HCE := Lib.hid hcv
            have HWC := Lib.hid hwc
            have HCB := Lib.hid hcb
            have HQC := Lib.hid hqc
            have HGE := Lib.hid hge
            have HC := Lib.hid hc
            obtain ⟨c0, c1, c2, c3⟩ := (HQ1.out.below (hbr.trans (hbi.mono (by omega))) (by omega)).four
            clear hcd hwc hcb hqc boc hcell hge hcv hc
            go_upto_region 24 with (first
                | (refine wpList_load_mid rfl 89 (.tmp 141) rfl b (o + i * 24) rfl c.cl _ hcc Tryz.underlying89 rfl (infoCl' c) ?_)
                | (refine wpList_store_cl rfl (.tmp 17) (.tmp 142) rfl c _ (by rfl) rfl rfl ?_; rw [HWC.out, HCB.out]))
            clear hcc c0 c1 c2 c3
            go_frame
            go_wp2_with (refine wpList_load_mid rfl 89 (.tmp 17) rfl cb 0 rfl c.cl _ hcc1 Tryz.underlying89 rfl (infoCl' c) ?_)
            refine hcall.mono ?_
            rintro e w8 ⟨rfl, b8⟩
            have br8 : Below wo.heap.size wo w8 := bwc.trans (b8.mono (by omega))
            have q8 := HQC.out.below b8 HQC.out.lt
            have s8 := b8.size
            clear hcall hcc1
            cases cv with
            | false =>
              go_wp2_with fail
              exact ⟨⟨i + 1, by omega, by go_num, br8⟩, by simp [intOf]; omega⟩
            | true =>
              have n1 : w8.cell? ⟨cb, 1, none⟩ = some (S c.lb) := q8.at (by rw [List.getElem?_toArray]; exact c.cl_at (by omega))
              have hlbi : (gAt cs i).lb = c.lb := by rw [← HGE.out]; rfl
              have HM8 := Lib.hid (HMo.out.below br8 MLT)
              rcases metV_cases (cs := cs) L L.length c.lb with hmv | hmv
              · have hv1 : Hid ((fS (metV cs L L.length) (.string c.lb)).getD (.int .i64 0) = .int .i64 0) := Lib.hid (by show (metV cs L L.length c.lb).getD _ = _; rw [hmv]; rfl)
                have HDR : Hid (drawnB cs nm d kn i n = true) := Lib.hid (by
                  have := drawnB_end (cs := cs) (nm := nm) (d := d) (kn := kn) (by rw [HN.out]; exact hli : i < cs.length) (by rw [← HGE.out]; exact HCE.out) (by rw [HL.out, hlbi]; exact hmv)
                  rwa [HN.out] at this)
                have HQ8 := Lib.hid q8
                clear hmv hlbi q8
                obtain ⟨c0, c1, c2, c3⟩ := (HQ1.out.below (hbr.trans (br8.mono (by omega))) (by omega)).four
                go_wp2_with (at_lookup; refine wpList_look_MG _ (by kernel_rfl) _ _ 91 rfl _ keyS Tryz.underlying91 (Tryz.zeroValue3 _) rfl HM8.out _ (.string c.lb) rfl (keyOf_S c.lb hll) (.int .i64 0) hv1.out ?_)
                clear n1 hv1
                go_loopw [18, 157] (fun uv jv wr => ∃ j : Nat, j ≤ n ∧ jv = .int .i64 j ∧ (∃ t, uv = .bool t ∧ Hid (t = drawnB cs nm d kn i j)) ∧ Below w8.heap.size w8 wr) (fun _ jv _ => n - (intOf jv).toNat)
                case atStart => exact ⟨0, Nat.zero_le _, rfl, ⟨_, rfl, Lib.hid (by rw [drawnB_zero])⟩, Below.refl _ _⟩
                case round =>
                  obtain ⟨j, hj, rfl, ⟨t, rfl, HT⟩, hbj⟩ := hrel
                  obtain ⟨wj, rfl⟩ : ∃ wj : World, wj = wr := ⟨_, rfl⟩
                  have sj := hbj.size
                  by_cases hlj : j < n
                  · have hcell := cells_below (HBO.out.trans ((br8.mono (by omega)).trans (hbj.mono (by omega)))) (Nat.lt_of_lt_of_le hbK hK) HC.out
                    have hcc := cl_range hcell hlj
                    obtain ⟨x, hxd⟩ : ∃ x, g j = x := ⟨_, rfl⟩
                    have hgx := hgi j hlj
                    rw [hxd] at hcc hgx
                    obtain ⟨hxe, hxn, hxl⟩ := hgx
                    obtain ⟨wx, hwx⟩ : ∃ wx, wj.alloc (.cells x.cl.toArray 89) = wx := ⟨_, rfl⟩
                    obtain ⟨xb, hxb⟩ : ∃ xb, wj.heap.size = xb := ⟨_, rfl⟩
                    have hqx : Blk wx xb x.cl.toArray 89 := by rw [← hwx, ← hxb]; exact Blk.new wj _ _
                    have box : Below wj.heap.size wj wx := by rw [← hwx]; exact (Below.refl _ _).alloc (Nat.le_refl _) _
                    have bwx : Below w8.heap.size w8 wx := hbj.trans (box.mono sj)
                    have swx : wx.heap.size = xb + 1 := by rw [← hwx, ← hxb]; simp
                    have sxb : w8.heap.size ≤ xb := by omega
                    have hccx := cl_own hqx
                    have hcallx := HCV.out x wx (hbr.trans ((br8.mono (by omega)).trans (bwx.mono (by omega)))) hxn
                    obtain ⟨cx, hcx⟩ : ∃ cx, cov (gcOf x) nm d kn = cx := ⟨_, rfl⟩
                    rw [hcx] at hcallx
                    have HWX := Lib.hid hwx
                    have HXB := Lib.hid hxb
                    have HQX := Lib.hid hqx
                    have HXE := Lib.hid hxe
                    obtain ⟨el, hel⟩ : ∃ el, (x.lb == c.lb) = el := ⟨_, rfl⟩
                    have HEL := Lib.hid hel
                    have HSTEP : Hid (drawnB cs nm d kn i (j + 1) = (drawnB cs nm d kn i j || (cx && el && x.off && (decide (c.kn < x.kn) || (x.kn == c.kn && decide (i ≤ j)))))) := Lib.hid (by
                      rw [drawnB_next]
                      unfold drawn
                      rw [← HXE.out, ← HGE.out, hcx]
                      have e1 : ((gcOf x).lb == (gcOf c).lb) = el := hel
                      rw [e1]; rfl)
                    clear hxd hwx hxb hqx box hcell hxe hcx hel
                    go_upto_region 29 with (first
                        | (refine wpList_load_mid rfl 89 (.tmp 160) rfl b (o + j * 24) rfl x.cl _ hcc Tryz.underlying89 rfl (infoCl' x) ?_)
                        | (refine wpList_store_cl rfl (.tmp 20) (.tmp 161) rfl x _ (by rfl) rfl rfl ?_; rw [HWX.out, HXB.out]))
                    clear hcc
                    go_frame
                    cases t with
                    | true =>
                      go_wp2_with fail
                      exact ⟨⟨j + 1, by omega, by go_num, ⟨_, rfl, Lib.hid (by rw [HSTEP.out, ← HT.out]; rfl)⟩, bwx⟩, by simp [intOf]; omega⟩
                    | false =>
                      go_wp2_with (refine wpList_load_midG (by kernel_rfl) 89 (.tmp 20) rfl xb 0 rfl x.cl _ hccx Tryz.underlying89 rfl (infoCl' x) ?_)
                      refine hcallx.mono ?_
                      rintro e w9 ⟨rfl, b9⟩
                      have bw9 : Below w8.heap.size w8 w9 := bwx.trans (b9.mono (by omega))
                      have x9 := HQX.out.below b9 HQX.out.lt
                      have y9 := HQ8.out.below bw9 HQ8.out.lt
                      have x1 : w9.cell? ⟨xb, 1, none⟩ = some (S x.lb) := x9.at (by rw [List.getElem?_toArray]; exact x.cl_at (by omega))
                      have x4 : w9.cell? ⟨xb, 4, none⟩ = some (.int .i64 x.kn) := x9.at (by rw [List.getElem?_toArray]; exact x.cl_at (by omega))
                      have x5 : w9.cell? ⟨xb, 5, none⟩ = some (.bool x.off) := x9.at (by rw [List.getElem?_toArray]; exact x.cl_at (by omega))
                      have y1 : w9.cell? ⟨cb, 1, none⟩ = some (S c.lb) := y9.at (by rw [List.getElem?_toArray]; exact c.cl_at (by omega))
                      have y4 : w9.cell? ⟨cb, 4, none⟩ = some (.int .i64 c.kn) := y9.at (by rw [List.getElem?_toArray]; exact c.cl_at (by omega))
                      have hel := HEL.out
                      clear hcallx hccx x9 y9
                      cases cx with
                      | false =>
                        go_wp2_with fail
                        exact ⟨⟨j + 1, by omega, by go_num, ⟨_, rfl, Lib.hid (by rw [HSTEP.out, ← HT.out]; rfl)⟩, bw9⟩, by simp [intOf]; omega⟩
                      | true =>
                        cases el with
                        | false =>
                          go_wp2_with fail
                          exact ⟨⟨j + 1, by omega, by go_num, ⟨_, rfl, Lib.hid (by rw [HSTEP.out, ← HT.out]; rfl)⟩, bw9⟩, by simp [intOf]; omega⟩
                        | true =>
                          obtain ⟨xo, hxo⟩ : ∃ xo, x.off = xo := ⟨_, rfl⟩
                          rw [hxo] at x5 HSTEP
                          clear hxo
                          cases xo with
                          | false =>
                            go_wp2_with fail
                            exact ⟨⟨j + 1, by omega, by go_num, ⟨_, rfl, Lib.hid (by rw [HSTEP.out, ← HT.out]; rfl)⟩, bw9⟩, by simp [intOf]; omega⟩
                          | true =>
                            obtain ⟨gt, hgt⟩ : ∃ gt, decide (c.kn < x.kn) = gt := ⟨_, rfl⟩
                            obtain ⟨eq, heq⟩ : ∃ eq, (x.kn == c.kn) = eq := ⟨_, rfl⟩
                            rw [hgt, heq] at HSTEP
                            cases gt with
                            | true =>
                              go_wp2_with fail
                              exact ⟨⟨j + 1, by omega, by go_num, ⟨_, rfl, Lib.hid (by rw [HSTEP.out, ← HT.out]; rfl)⟩, bw9⟩, by simp [intOf]; omega⟩
                            | false =>
                              cases eq with
                              | false =>
                                go_wp2_with fail
                                exact ⟨⟨j + 1, by omega, by go_num, ⟨_, rfl, Lib.hid (by rw [HSTEP.out, ← HT.out]; rfl)⟩, bw9⟩, by simp [intOf]; omega⟩
                              | true =>
                                go_wp2_with fail
                                exact ⟨⟨j + 1, by omega, by go_num, ⟨_, rfl, Lib.hid (by rw [HSTEP.out, ← HT.out]; simp)⟩, bw9⟩, by simp [intOf]; omega⟩
                  · obtain rfl : j = n := by omega
                    obtain rfl : t = true := HT.out.trans HDR.out
                    have brj : Below wo.heap.size wo wj := br8.trans (hbj.mono (by omega))
                    go_wp2_with fail
                    exact ⟨⟨i + 1, by omega, by go_num, brj⟩, by simp [intOf]; omega⟩
              · have hv1 : Hid ((fS (metV cs L L.length) (.string c.lb)).getD (.int .i64 0) = .int .i64 1) := Lib.hid (by show (metV cs L L.length c.lb).getD _ = _; rw [hmv]; rfl)
                clear hmv hlbi
                go_wp2_with (at_lookup; refine wpList_look_MG _ (by kernel_rfl) _ _ 91 rfl _ keyS Tryz.underlying91 (Tryz.zeroValue3 _) rfl HM8.out _ (.string c.lb) rfl (keyOf_S c.lb hll) (.int .i64 1) hv1.out ?_)
                exact ⟨⟨i + 1, by omega, by go_num, br8⟩, by simp [intOf]; omega⟩
          · obtain rfl : i = n := by omega
            have haw := glawake_any wi
            have bwi : Below B w wi := HBO.out.trans (hbi.mono (by omega))
            go_wp2_with fail
            refine haw.mono ?_
            rintro e w9 ⟨rfl, hb9⟩
            go_wp2_with fail
            go_ret
            exact ⟨rfl, bwi.trans (hb9.mono (by omega))⟩
end Go.Proofs.YthooiobhlbnaoaaGreat
