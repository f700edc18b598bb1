/- The reference's function numbers: a line's numbers. No conditions beyond those stated. -/
import Derived.Test.YtaccaebdmndkiaaGreatDoorBRPieces
import Derived.Test.YtaccaebdmndkiaaGreatDoorBRNumL
import Derived.Test.YtaccaebdmndkiaaGreatDoorBRTxt
import Derived.Test.YtaccaebdmndkiaaGreatDoorBQuiet
namespace Go.Proofs.YtaccaebdmndkiaaGreatDoor
open Go.RowKit
set_option linter.unusedVariables false

theorem Tryz.infoInt : (Tryz.prog.info? 3).map (fun i => (i.zero, i.size, i.bytes)) = some (some (.int .i64 0), 1, 8) := by kernel_rfl
def intV (n : Int) : Value := .int .i64 n

set_option maxRecDepth 100000 in
set_option maxHeartbeats 8000000 in
theorem rnumbers_any (s wd : ByteArray) (many : Nat) (w : World) (hs : s.size ≤ 1048576) (hm : many ≤ 100) :
    Calls Tryz.prog 64 #[.string s, .string wd, .int .i64 many] w fun e w' => ∃ v, e = .returned (.tuple #[v, .bool (rowOf wd.data.toList many s.data.toList).isSome]) ∧ OwnV w.heap.size 3 w' v (((rowOf wd.data.toList many s.data.toList).getD []).map intV) ∧ Below w.heap.size w w' := by
  obtain ⟨ws, hws⟩ : ∃ ws, cutAt 32 s.data.toList = ws := ⟨_, rfl⟩
  have hp := pieces_any s 32 w hs
  have hlen := cutAt_len 32 s.data.toList
  rw [hws] at hp hlen
  have hlen2 : ws.length ≤ 1048577 := by have : s.data.toList.length = s.size := rfl; omega
  have hne : ws ≠ [] := hws ▸ cutAt_ne _ _
  obtain ⟨wl, hwl⟩ : ∃ wl, wd.data.toList = wl := ⟨_, rfl⟩
  have HWL := Lib.hid (toList_of hwl)
  obtain ⟨ro, hro⟩ : ∃ ro, rowOf wd.data.toList many s.data.toList = ro := ⟨_, rfl⟩
  have hrow : ro = if ws.length = many + 1 ∧ ws.headD [] = wl then numsOf ws.tail else none := by rw [← hro, rowOf, hws, hwl]
  rw [hro]
  have HROW := Lib.hid hrow
  clear hro hrow hws hwl hlen
  go_enter Tryz.func64, Tryz.ntmps64
  go_wp2_with fail
  refine hp.mono ?_
  rintro e w2 ⟨v, rfl, hO, hb2⟩
  clear hp
  obtain ⟨g, cap, hv, hbg, hg, hlc, hcm, _, hc⟩ := hO.cases.resolve_left (by rintro ⟨_, h⟩; exact hne (List.map_eq_nil_iff.1 h))
  rw [List.length_map] at hv hlc
  subst hv
  unfold maxLen at hcm
  obtain ⟨p0, h0⟩ : ∃ p0, ws.headD [] = p0 := ⟨_, rfl⟩
  have c0 : w2.cell? ⟨g, 0, none⟩ = some (strV p0) := hc 0 _ (by cases ws with | nil => exact absurd rfl hne | cons a b => rw [← h0]; rfl)
  have hwl0 : 0 < ws.length := by cases ws with | nil => exact absurd rfl hne | cons a b => simp
  unfold strV at c0
  obtain ⟨b0, hb0⟩ : ∃ b0 : ByteArray, (⟨p0.toArray⟩ : ByteArray) = b0 := ⟨_, rfl⟩
  have hbd : b0.data.toList = p0 := by rw [← hb0]
  have HB0 := Lib.hid (toList_of hbd)
  rw [hb0] at c0
  have H0 := Lib.hid h0
  have HC := Lib.hid hc
  clear hb0 hbd h0 hne hO hc
  by_cases hw0 : p0 = wl
  case neg =>
    have g1 : (b0.toList == wd.toList) = false := by rw [HB0.out, HWL.out, beq_eq_false_iff_ne]; exact hw0
    have hnn : ro = none := by rw [HROW.out, if_neg]; rw [H0.out]; exact fun h => hw0 h.2
    clear hw0
    go_wp2_with fail
    go_ret2
    rw [hnn]
    exact ⟨_, rfl, OwnV.nil _ _ _, hb2⟩
  have g1 : (b0.toList == wd.toList) = true := by rw [HB0.out, HWL.out, hw0]; simp
  have HW0 := Lib.hid hw0
  clear hw0
  by_cases hmn : ws.length = many + 1
  case neg =>
    have g2 : ((ws.length : Int) != (many : Int) + 1) = true := by rw [bne_iff_ne]; omega
    have hnn : ro = none := by rw [HROW.out, if_neg]; exact fun h => hmn h.1
    clear hmn
    go_wp2_with fail
    go_ret2
    rw [hnn]
    exact ⟨_, rfl, OwnV.nil _ _ _, hb2⟩
  have g2 : ((ws.length : Int) != (many : Int) + 1) = false := by rw [bne_eq_false_iff_eq]; omega
  have hrw : ro = numsOf ws.tail := by rw [HROW.out, if_pos ⟨hmn, by rw [H0.out]; exact HW0.out⟩]
  have HR := Lib.hid hrw
  have HMN := Lib.hid hmn
  clear hrw hmn
  go_wp2_with fail
  go_loopw [9, 10] (fun o iv wr => ∃ (j : Nat) (ns : List Int), (1 ≤ j ∧ j ≤ ws.length) ∧ iv = .int .i64 j ∧ OwnV w2.heap.size 3 wr o (ns.map intV) ∧ Below w2.heap.size w2 wr ∧ numsOf (ws.tail.take (j - 1)) = some ns ∧ ns.length ≤ j) (fun _ iv _ => ws.length - (intOf iv).toNat)
  case atStart => exact ⟨1, [], ⟨Nat.le_refl _, hwl0⟩, rfl, OwnV.nil _ _ _, Below.refl _ _, rfl, Nat.zero_le _⟩
  case round =>
    obtain ⟨j, ns, ⟨hj1, hj⟩, rfl, hO, hbr, hns, hnj⟩ := hrel
    obtain ⟨oa, oc, rfl⟩ := hO.form
    have hnl : (ns.map intV).length ≤ 3000000 := by rw [List.length_map]; omega
    have HNL := Lib.hid hnl
    have HNS := Lib.hid hns
    have HNJ := Lib.hid hnj
    obtain ⟨P, hP⟩ : ∃ P, (ns.map intV).length = P := ⟨_, rfl⟩
    have HO := Lib.hid hO
    have hPe := hP
    have HPP := Lib.hid hPe
    rw [hP] at hO ⊢
    have hbs := hbr.size
    clear hnl hns hnj hP hPe g1 g2 c0
    by_cases hlt : j < ws.length
    · obtain ⟨p, hp⟩ : ∃ p, ws[j]? = some p := ⟨ws[j], List.getElem?_eq_getElem hlt⟩
      have c1 : wr.cell? ⟨g, j, none⟩ = some (strV p) := (hbr.cell (p := ⟨g, j, none⟩) hg).trans (HC.out j _ (by rw [List.getElem?_map, hp]; rfl))
      have hgl : g < wr.heap.size := Nat.lt_of_lt_of_le hg hbs
      unfold strV at c1
      obtain ⟨ps, hps⟩ : ∃ b0 : ByteArray, (⟨p.toArray⟩ : ByteArray) = b0 := ⟨_, rfl⟩
      have hpd : ps.data.toList = p := by rw [← hps]
      rw [hps] at c1
      have HPD := Lib.hid hpd
      have HPL := Lib.hid (toList_of hpd)
      have HPZ := Lib.hid (size_of hpd)
      have hmem : p ∈ ws.tail := by
        have : ws.tail[j - 1]? = some p := by rw [List.getElem?_tail, show j - 1 + 1 = j by omega, hp]
        exact List.mem_of_getElem? this
      have HNONE : Hid (numOf p = none → ro = none) := Lib.hid fun h => by rw [HR.out]; exact numsOf_none hmem h
      have HP := Lib.hid hp
      have b1 : (0 : Int) ≤ (j : Int) := by omega
      have b2 : (j : Int) < (ws.length : Int) := by omega
      clear hps hpd hmem hp
      go_wp2_with fail
      go_loopw [11, 12] (fun nv kv wr' => ∃ m : Nat, (m ≤ ps.size ∧ m ≤ 14) ∧ kv = .int .i64 m ∧ nv = .int .i64 (preV p m) ∧ (∀ q, q < m → p[q]?.getD 0 = 45 ∨ isDig (p[q]?.getD 0) = true) ∧ wr = wr') (fun _ kv _ => ps.size - (intOf kv).toNat)
      case atStart => exact ⟨0, ⟨Nat.zero_le _, by omega⟩, rfl, by rw [preV_zero]; rfl, fun q hq => absurd hq (Nat.not_lt_zero _), rfl⟩
      case round =>
        obtain ⟨m, ⟨hmp, hm14⟩, rfl, rfl, hok, rfl⟩ := hrel
        have hV := preV_lt (p := p) (by rw [← HPZ.out]; exact hmp) hok
        have hV2 : preV p m < 100000000000000 := Nat.lt_of_lt_of_le hV (Nat.pow_le_pow_right (by omega) hm14)
        have HOK := Lib.hid hok
        obtain ⟨V, hVe⟩ : ∃ V, preV p m = V := ⟨_, rfl⟩
        rw [hVe] at hV2 ⊢
        have HV := Lib.hid hVe
        clear hok hV hVe
        by_cases hml : m < ps.size
        · have b3 : (m : Int) < (ps.size : Int) := by omega
          have b4 : (0 : Int) ≤ (m : Int) := by omega
          have hml' : m < p.length := by rw [← HPZ.out]; exact hml
          have HML := Lib.hid hml'
          clear hml'
          by_cases h13 : 13 < m
          · have g3 : decide ((13 : Int) < (m : Int)) = true := decide_eq_true (by omega)
            have hnn : ro = none := HNONE.out (num_long (by have := HML.out; omega))
            clear h13
            go_wp2_with fail
            go_ret2
            rw [hnn]
            exact ⟨_, rfl, OwnV.nil _ _ _, hb2.trans (hbr.mono hb2.size)⟩
          have g3 : decide ((13 : Int) < (m : Int)) = false := decide_eq_false (by omega)
          have hch : ps[m] = p[m]?.getD 0 := str_at HPD.out hml
          obtain ⟨b, hb⟩ : ∃ b, p[m]?.getD 0 = b := ⟨_, rfl⟩
          rw [hb] at hch
          have HCH := Lib.hid hch
          have HB := Lib.hid hb
          clear hch hb
          by_cases h45 : b = 45
          · have g4 : (((ps[m]).toNat : Int) != 45) = false := by rw [HCH.out, h45]; rfl
            have hpv : preV p (m + 1) = V := by rw [preV_sign HML.out (HB.out.trans h45)]; exact HV.out
            have HPV := Lib.hid hpv
            have HOK2 : Hid (∀ q, q < m + 1 → p[q]?.getD 0 = 45 ∨ isDig (p[q]?.getD 0) = true) := Lib.hid fun q hq => by
              by_cases h : q < m
              · exact HOK.out q h
              · obtain rfl : q = m := by omega
                exact .inl (HB.out.trans h45)
            clear hpv h45
            go_wp2_with fail
            exact ⟨⟨m + 1, ⟨by omega, by omega⟩, by go_num, by rw [HPV.out], HOK2.out, trivial⟩, by simp [intOf]; omega⟩
          have g4 : (((ps[m]).toNat : Int) != 45) = true := by
            rw [HCH.out, bne_iff_ne]
            intro e
            exact h45 (UInt8.toNat_inj.1 (Int.ofNat_inj.1 e))
          by_cases hlo : b.toNat < 48
          · have g5 : decide (((ps[m]).toNat : Int) < 48) = true := by rw [HCH.out]; exact decide_eq_true (by omega)
            have hnn : ro = none := HNONE.out (num_byte HML.out (by rw [HB.out]; exact h45) (by rw [HB.out]; simp [isDig]; omega))
            clear hlo h45
            go_wp2_with fail
            go_ret2
            rw [hnn]
            exact ⟨_, rfl, OwnV.nil _ _ _, hb2.trans (hbr.mono hb2.size)⟩
          have g5 : decide (((ps[m]).toNat : Int) < 48) = false := by rw [HCH.out]; exact decide_eq_false (by omega)
          by_cases hhi : 57 < b.toNat
          · have g6 : decide ((57 : Int) < ((ps[m]).toNat : Int)) = true := by rw [HCH.out]; exact decide_eq_true (by omega)
            have hnn : ro = none := HNONE.out (num_byte HML.out (by rw [HB.out]; exact h45) (by rw [HB.out]; simp [isDig]; omega))
            clear hlo h45 hhi
            go_wp2_with fail
            go_ret2
            rw [hnn]
            exact ⟨_, rfl, OwnV.nil _ _ _, hb2.trans (hbr.mono hb2.size)⟩
          have g6 : decide ((57 : Int) < ((ps[m]).toNat : Int)) = false := by rw [HCH.out]; exact decide_eq_false (by omega)
          have g7 : IntKind.u8.wrap (((ps[m]).toNat : Int) - 48) = ((b.toNat - 48 : Nat) : Int) := by rw [HCH.out, IntWalk.u8_in _ (by omega)]; omega
          obtain ⟨dg, hdg⟩ : ∃ dg, b.toNat - 48 = dg := ⟨_, rfl⟩
          rw [hdg] at g7
          have hdg9 : dg ≤ 9 := by omega
          have hpv : preV p (m + 1) = 10 * V + dg := by rw [preV_dig HML.out (by rw [HB.out]; exact h45), HV.out, HB.out, hdg]
          have HPV := Lib.hid hpv
          have HOK2 : Hid (∀ q, q < m + 1 → p[q]?.getD 0 = 45 ∨ isDig (p[q]?.getD 0) = true) := Lib.hid fun q hq => by
            by_cases h : q < m
            · exact HOK.out q h
            · obtain rfl : q = m := by omega
              exact .inr (by rw [HB.out]; simp [isDig]; omega)
          clear hpv h45 hlo hhi hdg
          go_wp2_with fail
          exact ⟨⟨m + 1, ⟨by omega, by omega⟩, by go_num, by rw [HPV.out]; go_num, HOK2.out, trivial⟩, by simp [intOf]; omega⟩
        · obtain rfl : m = ps.size := by omega
          clear hml
          have hpre : preV p p.length = V := by rw [← HPZ.out]; exact HV.out
          have HPRE := Lib.hid hpre
          clear hpre
          by_cases hz : ps.size = 0
          · have g3 : decide ((0 : Int) < (ps.size : Int)) = false := decide_eq_false (by omega)
            have g3' : decide (0 < ps.size) = false := decide_eq_false (by omega)
            have g3n : ¬ 0 < ps.size := by omega
            have href : refV p = (V : Int) := by
              rw [refV_pre, if_neg, HPRE.out]
              have : p = [] := List.eq_nil_of_length_eq_zero (by rw [← HPZ.out]; exact hz)
              rw [this]; simp
            obtain ⟨R, hR⟩ : ∃ R : Int, (V : Int) = R := ⟨_, rfl⟩
            rw [hR] at href ⊢
            have HREF := Lib.hid href
            clear hz href hR
            have hrr := HREF.out
            by_cases hlo : R < -1099511627776
            · have g6 : decide (R < -1099511627776) = true := decide_eq_true hlo
              have hnn : ro = none := HNONE.out (by unfold numOf; rw [hrr, if_neg (by omega)])
              clear hlo hrr
              go_wp2_with fail
              refine wp_onlyN ?_
              refine region_WQ (fun W' => Below wr.heap.size wr W') (by kernel_rfl) (by kernel_rfl) ⟨rfl, rfl, rfl, Nat.le_refl _, fun _ _ => rfl⟩ ?_
              refine WQ.take (.int .i64 R) (.inl ⟨by kernel_rfl, fun W' hS => by go_simp <;> exact hS⟩) ?_
              refine WQ.take (.bool true) (.inl ⟨by kernel_rfl, fun W' hS => by go_simp <;> exact hS⟩) ?_
              refine WQ.take (.bool true) (.inl ⟨by kernel_rfl, fun W' hS => by go_simp <;> exact hS⟩) ?_
              refine WQ.take undef (.inr ⟨by kernel_rfl, rfl⟩) ?_
              refine WQ.take undef (.inr ⟨by kernel_rfl, rfl⟩) ?_
              refine WQ.take (.bool true) (.inl ⟨by kernel_rfl, fun W' hS => by go_simp <;> exact hS⟩) ?_
              refine WQ.take (.bool true) (.inl ⟨by kernel_rfl, fun W' hS => by go_simp <;> exact hS⟩) ?_
              refine WQ.take undef (.inr ⟨by kernel_rfl, rfl⟩) ?_
              refine WQ.take undef (.inr ⟨by kernel_rfl, rfl⟩) ?_
              refine WQ.take undef (.inr ⟨by kernel_rfl, rfl⟩) ?_
              refine WQ.take undef (.inr ⟨by kernel_rfl, rfl⟩) ?_
              refine WQ.take undef (.inr ⟨by kernel_rfl, rfl⟩) ?_
              refine WQ.take undef (.inr ⟨by kernel_rfl, rfl⟩) ?_
              refine WQ.take undef (.inr ⟨by kernel_rfl, rfl⟩) ?_
              refine WQ.take (.bool true) (.inl ⟨by kernel_rfl, fun W' hS => by go_simp <;> exact hS⟩) ?_
              refine WQ.nil ?_
              intro w3 hb3
              refine onlyN_mk ?_
              go_simp
              go_wp2_with fail
              go_ret2
              rw [hnn]
              exact ⟨_, rfl, OwnV.nil _ _ _, hb2.trans ((hbr.mono hb2.size).trans (hb3.mono (Nat.le_trans hb2.size hbr.size)))⟩
            have g6 : decide (R < -1099511627776) = false := decide_eq_false hlo
            by_cases hhi : 1099511627776 < R
            · have g7 : decide (1099511627776 < R) = true := decide_eq_true hhi
              have hnn : ro = none := HNONE.out (by unfold numOf; rw [hrr, if_neg (by omega)])
              clear hlo hhi hrr
              go_wp2_with fail
              refine wp_onlyN ?_
              refine region_WQ (fun W' => Below wr.heap.size wr W') (by kernel_rfl) (by kernel_rfl) ⟨rfl, rfl, rfl, Nat.le_refl _, fun _ _ => rfl⟩ ?_
              refine WQ.take (.int .i64 R) (.inl ⟨by kernel_rfl, fun W' hS => by go_simp <;> exact hS⟩) ?_
              refine WQ.take (.bool false) (.inl ⟨by kernel_rfl, fun W' hS => by go_simp <;> exact hS⟩) ?_
              refine WQ.take (.bool false) (.inl ⟨by kernel_rfl, fun W' hS => by go_simp <;> exact hS⟩) ?_
              refine WQ.take (.int .i64 R) (.inl ⟨by kernel_rfl, fun W' hS => by go_simp <;> exact hS⟩) ?_
              refine WQ.take (.bool true) (.inl ⟨by kernel_rfl, fun W' hS => by go_simp <;> exact hS⟩) ?_
              refine WQ.take (.bool true) (.inl ⟨by kernel_rfl, fun W' hS => by go_simp <;> exact hS⟩) ?_
              refine WQ.take (.bool true) (.inl ⟨by kernel_rfl, fun W' hS => by go_simp <;> exact hS⟩) ?_
              refine WQ.take undef (.inr ⟨by kernel_rfl, rfl⟩) ?_
              refine WQ.take undef (.inr ⟨by kernel_rfl, rfl⟩) ?_
              refine WQ.take undef (.inr ⟨by kernel_rfl, rfl⟩) ?_
              refine WQ.take undef (.inr ⟨by kernel_rfl, rfl⟩) ?_
              refine WQ.take undef (.inr ⟨by kernel_rfl, rfl⟩) ?_
              refine WQ.take undef (.inr ⟨by kernel_rfl, rfl⟩) ?_
              refine WQ.take undef (.inr ⟨by kernel_rfl, rfl⟩) ?_
              refine WQ.take (.bool true) (.inl ⟨by kernel_rfl, fun W' hS => by go_simp <;> exact hS⟩) ?_
              refine WQ.nil ?_
              intro w3 hb3
              refine onlyN_mk ?_
              go_simp
              go_wp2_with fail
              go_ret2
              rw [hnn]
              exact ⟨_, rfl, OwnV.nil _ _ _, hb2.trans ((hbr.mono hb2.size).trans (hb3.mono (Nat.le_trans hb2.size hbr.size)))⟩
            have g7 : decide (1099511627776 < R) = false := decide_eq_false hhi
            have hgm : Gm R := ⟨by omega, by omega⟩
            have hdc := fun W' (hS : Below wr.heap.size wr W') => dec_any R W' ⟨by have := hgm.1; omega, by have := hgm.2; omega⟩
            obtain ⟨ds, hds⟩ : ∃ ds : ByteArray, (⟨(Lib.itoa R).toArray⟩ : ByteArray) = ds := ⟨_, rfl⟩
            have hdd : ds.data.toList = Lib.itoa R := by rw [← hds]
            rw [hds] at hdc
            have HDD := Lib.hid (toList_of hdd)
            clear hds hdd
            by_cases heq : Lib.itoa R = p
            case neg =>
              have g8 : (ds.toList == ps.toList) = false := by rw [HDD.out, HPL.out, beq_eq_false_iff_ne]; exact heq
              have hnn : ro = none := HNONE.out (by unfold numOf; rw [hrr, if_neg (fun h => heq h.2.2)])
              clear hlo hhi hrr heq hgm
              go_wp2_with fail
              refine wp_onlyN ?_
              refine region_WQ (fun W' => Below wr.heap.size wr W') (by kernel_rfl) (by kernel_rfl) ⟨rfl, rfl, rfl, Nat.le_refl _, fun _ _ => rfl⟩ ?_
              refine WQ.take (.int .i64 R) (.inl ⟨by kernel_rfl, fun W' hS => by go_simp <;> exact hS⟩) ?_
              refine WQ.take (.bool false) (.inl ⟨by kernel_rfl, fun W' hS => by go_simp <;> exact hS⟩) ?_
              refine WQ.take (.bool false) (.inl ⟨by kernel_rfl, fun W' hS => by go_simp <;> exact hS⟩) ?_
              refine WQ.take (.int .i64 R) (.inl ⟨by kernel_rfl, fun W' hS => by go_simp <;> exact hS⟩) ?_
              refine WQ.take (.bool false) (.inl ⟨by kernel_rfl, fun W' hS => by go_simp <;> exact hS⟩) ?_
              refine WQ.take (.bool false) (.inl ⟨by kernel_rfl, fun W' hS => by go_simp <;> exact hS⟩) ?_
              refine WQ.take (.bool false) (.inl ⟨by kernel_rfl, fun W' hS => by go_simp <;> exact hS⟩) ?_
              refine WQ.take (.int .i64 R) (.inl ⟨by kernel_rfl, fun W' hS => by go_simp <;> exact hS⟩) ?_
              refine WQ.take (.string ds) (.inl ⟨by kernel_rfl, fun W' hS => by go_simp <;> exact (hdc W' hS).mono fun e W'' ⟨h1, h2⟩ => ⟨h1, hS.trans (h2.mono hS.size)⟩⟩) ?_
              refine WQ.take (.slice (some ⟨g, 0, none⟩) ws.length cap) (.inl ⟨by kernel_rfl, fun W' hS => by go_simp <;> exact hS⟩) ?_
              refine WQ.take (.int .i64 j) (.inl ⟨by kernel_rfl, fun W' hS => by go_simp <;> exact hS⟩) ?_
              refine WQ.take (.pointer (some ⟨g, j, none⟩)) (.inl ⟨by kernel_rfl, fun W' hS => by go_simp <;> exact hS⟩) ?_
              refine WQ.take (.string ps) (.inl ⟨by kernel_rfl, fun W' hS => by have c1' := (hS.cell (p := ⟨g, j, none⟩) hgl).trans c1; go_simp <;> exact hS⟩) ?_
              refine WQ.take (.bool true) (.inl ⟨by kernel_rfl, fun W' hS => by go_simp <;> exact hS⟩) ?_
              refine WQ.take (.bool true) (.inl ⟨by kernel_rfl, fun W' hS => by go_simp <;> exact hS⟩) ?_
              refine WQ.nil ?_
              intro w3 hb3
              refine onlyN_mk ?_
              go_simp
              go_wp2_with fail
              go_ret2
              rw [hnn]
              exact ⟨_, rfl, OwnV.nil _ _ _, hb2.trans ((hbr.mono hb2.size).trans (hb3.mono (Nat.le_trans hb2.size hbr.size)))⟩
            case pos =>
              have g8 : (ds.toList == ps.toList) = true := by rw [HDD.out, HPL.out, heq]; simp
              have hnum : numOf p = some R := by unfold numOf; rw [hrr, if_pos ⟨hgm.1, hgm.2, heq⟩]
              have HNUM := Lib.hid hnum
              clear hlo hhi hrr heq hgm hnum
              go_wp2_with fail
              refine wp_onlyN ?_
              refine region_WQ (fun W' => Below wr.heap.size wr W') (by kernel_rfl) (by kernel_rfl) ⟨rfl, rfl, rfl, Nat.le_refl _, fun _ _ => rfl⟩ ?_
              refine WQ.take (.int .i64 R) (.inl ⟨by kernel_rfl, fun W' hS => by go_simp <;> exact hS⟩) ?_
              refine WQ.take (.bool false) (.inl ⟨by kernel_rfl, fun W' hS => by go_simp <;> exact hS⟩) ?_
              refine WQ.take (.bool false) (.inl ⟨by kernel_rfl, fun W' hS => by go_simp <;> exact hS⟩) ?_
              refine WQ.take (.int .i64 R) (.inl ⟨by kernel_rfl, fun W' hS => by go_simp <;> exact hS⟩) ?_
              refine WQ.take (.bool false) (.inl ⟨by kernel_rfl, fun W' hS => by go_simp <;> exact hS⟩) ?_
              refine WQ.take (.bool false) (.inl ⟨by kernel_rfl, fun W' hS => by go_simp <;> exact hS⟩) ?_
              refine WQ.take (.bool false) (.inl ⟨by kernel_rfl, fun W' hS => by go_simp <;> exact hS⟩) ?_
              refine WQ.take (.int .i64 R) (.inl ⟨by kernel_rfl, fun W' hS => by go_simp <;> exact hS⟩) ?_
              refine WQ.take (.string ds) (.inl ⟨by kernel_rfl, fun W' hS => by go_simp <;> exact (hdc W' hS).mono fun e W'' ⟨h1, h2⟩ => ⟨h1, hS.trans (h2.mono hS.size)⟩⟩) ?_
              refine WQ.take (.slice (some ⟨g, 0, none⟩) ws.length cap) (.inl ⟨by kernel_rfl, fun W' hS => by go_simp <;> exact hS⟩) ?_
              refine WQ.take (.int .i64 j) (.inl ⟨by kernel_rfl, fun W' hS => by go_simp <;> exact hS⟩) ?_
              refine WQ.take (.pointer (some ⟨g, j, none⟩)) (.inl ⟨by kernel_rfl, fun W' hS => by go_simp <;> exact hS⟩) ?_
              refine WQ.take (.string ps) (.inl ⟨by kernel_rfl, fun W' hS => by have c1' := (hS.cell (p := ⟨g, j, none⟩) hgl).trans c1; go_simp <;> exact hS⟩) ?_
              refine WQ.take (.bool false) (.inl ⟨by kernel_rfl, fun W' hS => by go_simp <;> exact hS⟩) ?_
              refine WQ.take (.bool false) (.inl ⟨by kernel_rfl, fun W' hS => by go_simp <;> exact hS⟩) ?_
              refine WQ.nil ?_
              intro w3 hb3
              refine onlyN_mk ?_
              go_simp
              have hO3 := hO.old hb3
              have hbs3 : w2.heap.size ≤ w3.heap.size := Nat.le_trans hbr.size hb3.size
              go_wp2_with (at_builtin; refine wpList_append_V rfl (.tmp 120) (.tmp 122) 44 3 8 (.int .i64 0) Tryz.underlying44 Tryz.infoInt rfl (by omega) rfl w3 (.int .i64 R) rfl rfl rfl hO3 HNL.out hbs3 ?_; intro v' w4 hown hgr hbe)
              refine ⟨⟨j + 1, ns ++ [R], ⟨by omega, by omega⟩, by go_num, ?_, (hbr.trans (hb3.mono hbr.size)).trans (hbe.mono (Nat.le_refl _)), ?_, by rw [List.length_append]; have := HNJ.out; simp; omega⟩, by simp [intOf]; omega⟩
              · rw [List.map_append]; exact hown
              · have ht : ws.tail.take (j + 1 - 1) = ws.tail.take (j - 1) ++ [p] := by
                  rw [show j + 1 - 1 = (j - 1) + 1 by omega, List.take_add_one, List.getElem?_tail, show j - 1 + 1 = j by omega, HP.out]; rfl
                rw [ht]
                exact numsOf_snoc HNS.out p HNUM.out
          have g3 : decide ((0 : Int) < (ps.size : Int)) = true := decide_eq_true (by omega)
          have hzl : 0 < ps.size := by omega
          have b5 : (0 : Int) < (ps.size : Int) := by omega
          have hch : ps[0] = p[0]?.getD 0 := str_at HPD.out hzl
          have hhd : p.head? = some (p[0]?.getD 0) := by
            cases p with
            | nil => have h9 : ps.size = 0 := HPZ.out
                     omega
            | cons a b => rfl
          obtain ⟨b, hb⟩ : ∃ b, p[0]?.getD 0 = b := ⟨_, rfl⟩
          rw [hb] at hch hhd
          have HCH := Lib.hid hch
          have HHD := Lib.hid hhd
          clear hch hb hhd hz
          by_cases h45 : b = 45
          · have g4 : (((ps[0]).toNat : Int) == 45) = true := by rw [HCH.out, h45]; rfl
            have href : refV p = -(V : Int) := by rw [refV_pre, HHD.out, h45, if_pos rfl, HPRE.out]
            obtain ⟨R, hR⟩ : ∃ R : Int, -(V : Int) = R := ⟨_, rfl⟩
            rw [hR] at href
            have HREF := Lib.hid href
            have gw : IntKind.i64.wrap (-(V : Int)) = R := by rw [IntWalk.i64_in (-(V : Int)) (by omega)]; exact hR
            clear href hR h45
            have hrr := HREF.out
            by_cases hlo : R < -1099511627776
            · have g6 : decide (R < -1099511627776) = true := decide_eq_true hlo
              have hnn : ro = none := HNONE.out (by unfold numOf; rw [hrr, if_neg (by omega)])
              clear hlo hrr
              go_wp2_with fail
              refine wp_onlyN ?_
              refine region_WQ (fun W' => Below wr.heap.size wr W') (by kernel_rfl) (by kernel_rfl) ⟨rfl, rfl, rfl, Nat.le_refl _, fun _ _ => rfl⟩ ?_
              refine WQ.take (.int .i64 R) (.inl ⟨by kernel_rfl, fun W' hS => by go_simp <;> exact hS⟩) ?_
              refine WQ.take (.bool true) (.inl ⟨by kernel_rfl, fun W' hS => by go_simp <;> exact hS⟩) ?_
              refine WQ.take (.bool true) (.inl ⟨by kernel_rfl, fun W' hS => by go_simp <;> exact hS⟩) ?_
              refine WQ.take undef (.inr ⟨by kernel_rfl, rfl⟩) ?_
              refine WQ.take undef (.inr ⟨by kernel_rfl, rfl⟩) ?_
              refine WQ.take (.bool true) (.inl ⟨by kernel_rfl, fun W' hS => by go_simp <;> exact hS⟩) ?_
              refine WQ.take (.bool true) (.inl ⟨by kernel_rfl, fun W' hS => by go_simp <;> exact hS⟩) ?_
              refine WQ.take undef (.inr ⟨by kernel_rfl, rfl⟩) ?_
              refine WQ.take undef (.inr ⟨by kernel_rfl, rfl⟩) ?_
              refine WQ.take undef (.inr ⟨by kernel_rfl, rfl⟩) ?_
              refine WQ.take undef (.inr ⟨by kernel_rfl, rfl⟩) ?_
              refine WQ.take undef (.inr ⟨by kernel_rfl, rfl⟩) ?_
              refine WQ.take undef (.inr ⟨by kernel_rfl, rfl⟩) ?_
              refine WQ.take undef (.inr ⟨by kernel_rfl, rfl⟩) ?_
              refine WQ.take (.bool true) (.inl ⟨by kernel_rfl, fun W' hS => by go_simp <;> exact hS⟩) ?_
              refine WQ.nil ?_
              intro w3 hb3
              refine onlyN_mk ?_
              go_simp
              go_wp2_with fail
              go_ret2
              rw [hnn]
              exact ⟨_, rfl, OwnV.nil _ _ _, hb2.trans ((hbr.mono hb2.size).trans (hb3.mono (Nat.le_trans hb2.size hbr.size)))⟩
            have g6 : decide (R < -1099511627776) = false := decide_eq_false hlo
            by_cases hhi : 1099511627776 < R
            · have g7 : decide (1099511627776 < R) = true := decide_eq_true hhi
              have hnn : ro = none := HNONE.out (by unfold numOf; rw [hrr, if_neg (by omega)])
              clear hlo hhi hrr
              go_wp2_with fail
              refine wp_onlyN ?_
              refine region_WQ (fun W' => Below wr.heap.size wr W') (by kernel_rfl) (by kernel_rfl) ⟨rfl, rfl, rfl, Nat.le_refl _, fun _ _ => rfl⟩ ?_
              refine WQ.take (.int .i64 R) (.inl ⟨by kernel_rfl, fun W' hS => by go_simp <;> exact hS⟩) ?_
              refine WQ.take (.bool false) (.inl ⟨by kernel_rfl, fun W' hS => by go_simp <;> exact hS⟩) ?_
              refine WQ.take (.bool false) (.inl ⟨by kernel_rfl, fun W' hS => by go_simp <;> exact hS⟩) ?_
              refine WQ.take (.int .i64 R) (.inl ⟨by kernel_rfl, fun W' hS => by go_simp <;> exact hS⟩) ?_
              refine WQ.take (.bool true) (.inl ⟨by kernel_rfl, fun W' hS => by go_simp <;> exact hS⟩) ?_
              refine WQ.take (.bool true) (.inl ⟨by kernel_rfl, fun W' hS => by go_simp <;> exact hS⟩) ?_
              refine WQ.take (.bool true) (.inl ⟨by kernel_rfl, fun W' hS => by go_simp <;> exact hS⟩) ?_
              refine WQ.take undef (.inr ⟨by kernel_rfl, rfl⟩) ?_
              refine WQ.take undef (.inr ⟨by kernel_rfl, rfl⟩) ?_
              refine WQ.take undef (.inr ⟨by kernel_rfl, rfl⟩) ?_
              refine WQ.take undef (.inr ⟨by kernel_rfl, rfl⟩) ?_
              refine WQ.take undef (.inr ⟨by kernel_rfl, rfl⟩) ?_
              refine WQ.take undef (.inr ⟨by kernel_rfl, rfl⟩) ?_
              refine WQ.take undef (.inr ⟨by kernel_rfl, rfl⟩) ?_
              refine WQ.take (.bool true) (.inl ⟨by kernel_rfl, fun W' hS => by go_simp <;> exact hS⟩) ?_
              refine WQ.nil ?_
              intro w3 hb3
              refine onlyN_mk ?_
              go_simp
              go_wp2_with fail
              go_ret2
              rw [hnn]
              exact ⟨_, rfl, OwnV.nil _ _ _, hb2.trans ((hbr.mono hb2.size).trans (hb3.mono (Nat.le_trans hb2.size hbr.size)))⟩
            have g7 : decide (1099511627776 < R) = false := decide_eq_false hhi
            have hgm : Gm R := ⟨by omega, by omega⟩
            have hdc := fun W' (hS : Below wr.heap.size wr W') => dec_any R W' ⟨by have := hgm.1; omega, by have := hgm.2; omega⟩
            obtain ⟨ds, hds⟩ : ∃ ds : ByteArray, (⟨(Lib.itoa R).toArray⟩ : ByteArray) = ds := ⟨_, rfl⟩
            have hdd : ds.data.toList = Lib.itoa R := by rw [← hds]
            rw [hds] at hdc
            have HDD := Lib.hid (toList_of hdd)
            clear hds hdd
            by_cases heq : Lib.itoa R = p
            case neg =>
              have g8 : (ds.toList == ps.toList) = false := by rw [HDD.out, HPL.out, beq_eq_false_iff_ne]; exact heq
              have hnn : ro = none := HNONE.out (by unfold numOf; rw [hrr, if_neg (fun h => heq h.2.2)])
              clear hlo hhi hrr heq hgm
              go_wp2_with fail
              refine wp_onlyN ?_
              refine region_WQ (fun W' => Below wr.heap.size wr W') (by kernel_rfl) (by kernel_rfl) ⟨rfl, rfl, rfl, Nat.le_refl _, fun _ _ => rfl⟩ ?_
              refine WQ.take (.int .i64 R) (.inl ⟨by kernel_rfl, fun W' hS => by go_simp <;> exact hS⟩) ?_
              refine WQ.take (.bool false) (.inl ⟨by kernel_rfl, fun W' hS => by go_simp <;> exact hS⟩) ?_
              refine WQ.take (.bool false) (.inl ⟨by kernel_rfl, fun W' hS => by go_simp <;> exact hS⟩) ?_
              refine WQ.take (.int .i64 R) (.inl ⟨by kernel_rfl, fun W' hS => by go_simp <;> exact hS⟩) ?_
              refine WQ.take (.bool false) (.inl ⟨by kernel_rfl, fun W' hS => by go_simp <;> exact hS⟩) ?_
              refine WQ.take (.bool false) (.inl ⟨by kernel_rfl, fun W' hS => by go_simp <;> exact hS⟩) ?_
              refine WQ.take (.bool false) (.inl ⟨by kernel_rfl, fun W' hS => by go_simp <;> exact hS⟩) ?_
              refine WQ.take (.int .i64 R) (.inl ⟨by kernel_rfl, fun W' hS => by go_simp <;> exact hS⟩) ?_
              refine WQ.take (.string ds) (.inl ⟨by kernel_rfl, fun W' hS => by go_simp <;> exact (hdc W' hS).mono fun e W'' ⟨h1, h2⟩ => ⟨h1, hS.trans (h2.mono hS.size)⟩⟩) ?_
              refine WQ.take (.slice (some ⟨g, 0, none⟩) ws.length cap) (.inl ⟨by kernel_rfl, fun W' hS => by go_simp <;> exact hS⟩) ?_
              refine WQ.take (.int .i64 j) (.inl ⟨by kernel_rfl, fun W' hS => by go_simp <;> exact hS⟩) ?_
              refine WQ.take (.pointer (some ⟨g, j, none⟩)) (.inl ⟨by kernel_rfl, fun W' hS => by go_simp <;> exact hS⟩) ?_
              refine WQ.take (.string ps) (.inl ⟨by kernel_rfl, fun W' hS => by have c1' := (hS.cell (p := ⟨g, j, none⟩) hgl).trans c1; go_simp <;> exact hS⟩) ?_
              refine WQ.take (.bool true) (.inl ⟨by kernel_rfl, fun W' hS => by go_simp <;> exact hS⟩) ?_
              refine WQ.take (.bool true) (.inl ⟨by kernel_rfl, fun W' hS => by go_simp <;> exact hS⟩) ?_
              refine WQ.nil ?_
              intro w3 hb3
              refine onlyN_mk ?_
              go_simp
              go_wp2_with fail
              go_ret2
              rw [hnn]
              exact ⟨_, rfl, OwnV.nil _ _ _, hb2.trans ((hbr.mono hb2.size).trans (hb3.mono (Nat.le_trans hb2.size hbr.size)))⟩
            case pos =>
              have g8 : (ds.toList == ps.toList) = true := by rw [HDD.out, HPL.out, heq]; simp
              have hnum : numOf p = some R := by unfold numOf; rw [hrr, if_pos ⟨hgm.1, hgm.2, heq⟩]
              have HNUM := Lib.hid hnum
              clear hlo hhi hrr heq hgm hnum
              go_wp2_with fail
              refine wp_onlyN ?_
              refine region_WQ (fun W' => Below wr.heap.size wr W') (by kernel_rfl) (by kernel_rfl) ⟨rfl, rfl, rfl, Nat.le_refl _, fun _ _ => rfl⟩ ?_
              refine WQ.take (.int .i64 R) (.inl ⟨by kernel_rfl, fun W' hS => by go_simp <;> exact hS⟩) ?_
              refine WQ.take (.bool false) (.inl ⟨by kernel_rfl, fun W' hS => by go_simp <;> exact hS⟩) ?_
              refine WQ.take (.bool false) (.inl ⟨by kernel_rfl, fun W' hS => by go_simp <;> exact hS⟩) ?_
              refine WQ.take (.int .i64 R) (.inl ⟨by kernel_rfl, fun W' hS => by go_simp <;> exact hS⟩) ?_
              refine WQ.take (.bool false) (.inl ⟨by kernel_rfl, fun W' hS => by go_simp <;> exact hS⟩) ?_
              refine WQ.take (.bool false) (.inl ⟨by kernel_rfl, fun W' hS => by go_simp <;> exact hS⟩) ?_
              refine WQ.take (.bool false) (.inl ⟨by kernel_rfl, fun W' hS => by go_simp <;> exact hS⟩) ?_
              refine WQ.take (.int .i64 R) (.inl ⟨by kernel_rfl, fun W' hS => by go_simp <;> exact hS⟩) ?_
              refine WQ.take (.string ds) (.inl ⟨by kernel_rfl, fun W' hS => by go_simp <;> exact (hdc W' hS).mono fun e W'' ⟨h1, h2⟩ => ⟨h1, hS.trans (h2.mono hS.size)⟩⟩) ?_
              refine WQ.take (.slice (some ⟨g, 0, none⟩) ws.length cap) (.inl ⟨by kernel_rfl, fun W' hS => by go_simp <;> exact hS⟩) ?_
              refine WQ.take (.int .i64 j) (.inl ⟨by kernel_rfl, fun W' hS => by go_simp <;> exact hS⟩) ?_
              refine WQ.take (.pointer (some ⟨g, j, none⟩)) (.inl ⟨by kernel_rfl, fun W' hS => by go_simp <;> exact hS⟩) ?_
              refine WQ.take (.string ps) (.inl ⟨by kernel_rfl, fun W' hS => by have c1' := (hS.cell (p := ⟨g, j, none⟩) hgl).trans c1; go_simp <;> exact hS⟩) ?_
              refine WQ.take (.bool false) (.inl ⟨by kernel_rfl, fun W' hS => by go_simp <;> exact hS⟩) ?_
              refine WQ.take (.bool false) (.inl ⟨by kernel_rfl, fun W' hS => by go_simp <;> exact hS⟩) ?_
              refine WQ.nil ?_
              intro w3 hb3
              refine onlyN_mk ?_
              go_simp
              have hO3 := hO.old hb3
              have hbs3 : w2.heap.size ≤ w3.heap.size := Nat.le_trans hbr.size hb3.size
              go_wp2_with (at_builtin; refine wpList_append_V rfl (.tmp 120) (.tmp 122) 44 3 8 (.int .i64 0) Tryz.underlying44 Tryz.infoInt rfl (by omega) rfl w3 (.int .i64 R) rfl rfl rfl hO3 HNL.out hbs3 ?_; intro v' w4 hown hgr hbe)
              refine ⟨⟨j + 1, ns ++ [R], ⟨by omega, by omega⟩, by go_num, ?_, (hbr.trans (hb3.mono hbr.size)).trans (hbe.mono (Nat.le_refl _)), ?_, by rw [List.length_append]; have := HNJ.out; simp; omega⟩, by simp [intOf]; omega⟩
              · rw [List.map_append]; exact hown
              · have ht : ws.tail.take (j + 1 - 1) = ws.tail.take (j - 1) ++ [p] := by
                  rw [show j + 1 - 1 = (j - 1) + 1 by omega, List.take_add_one, List.getElem?_tail, show j - 1 + 1 = j by omega, HP.out]; rfl
                rw [ht]
                exact numsOf_snoc HNS.out p HNUM.out
          · have g4 : (((ps[0]).toNat : Int) == 45) = false := by
              rw [HCH.out, beq_eq_false_iff_ne]
              intro e
              exact h45 (UInt8.toNat_inj.1 (Int.ofNat_inj.1 e))
            have href : refV p = (V : Int) := by rw [refV_pre, HHD.out, if_neg (by simpa using h45), HPRE.out]
            obtain ⟨R, hR⟩ : ∃ R : Int, (V : Int) = R := ⟨_, rfl⟩
            rw [hR] at href ⊢
            have HREF := Lib.hid href
            clear href hR h45
            have hrr := HREF.out
            by_cases hlo : R < -1099511627776
            · have g6 : decide (R < -1099511627776) = true := decide_eq_true hlo
              have hnn : ro = none := HNONE.out (by unfold numOf; rw [hrr, if_neg (by omega)])
              clear hlo hrr
              go_wp2_with fail
              refine wp_onlyN ?_
              refine region_WQ (fun W' => Below wr.heap.size wr W') (by kernel_rfl) (by kernel_rfl) ⟨rfl, rfl, rfl, Nat.le_refl _, fun _ _ => rfl⟩ ?_
              refine WQ.take (.int .i64 R) (.inl ⟨by kernel_rfl, fun W' hS => by go_simp <;> exact hS⟩) ?_
              refine WQ.take (.bool true) (.inl ⟨by kernel_rfl, fun W' hS => by go_simp <;> exact hS⟩) ?_
              refine WQ.take (.bool true) (.inl ⟨by kernel_rfl, fun W' hS => by go_simp <;> exact hS⟩) ?_
              refine WQ.take undef (.inr ⟨by kernel_rfl, rfl⟩) ?_
              refine WQ.take undef (.inr ⟨by kernel_rfl, rfl⟩) ?_
              refine WQ.take (.bool true) (.inl ⟨by kernel_rfl, fun W' hS => by go_simp <;> exact hS⟩) ?_
              refine WQ.take (.bool true) (.inl ⟨by kernel_rfl, fun W' hS => by go_simp <;> exact hS⟩) ?_
              refine WQ.take undef (.inr ⟨by kernel_rfl, rfl⟩) ?_
              refine WQ.take undef (.inr ⟨by kernel_rfl, rfl⟩) ?_
              refine WQ.take undef (.inr ⟨by kernel_rfl, rfl⟩) ?_
              refine WQ.take undef (.inr ⟨by kernel_rfl, rfl⟩) ?_
              refine WQ.take undef (.inr ⟨by kernel_rfl, rfl⟩) ?_
              refine WQ.take undef (.inr ⟨by kernel_rfl, rfl⟩) ?_
              refine WQ.take undef (.inr ⟨by kernel_rfl, rfl⟩) ?_
              refine WQ.take (.bool true) (.inl ⟨by kernel_rfl, fun W' hS => by go_simp <;> exact hS⟩) ?_
              refine WQ.nil ?_
              intro w3 hb3
              refine onlyN_mk ?_
              go_simp
              go_wp2_with fail
              go_ret2
              rw [hnn]
              exact ⟨_, rfl, OwnV.nil _ _ _, hb2.trans ((hbr.mono hb2.size).trans (hb3.mono (Nat.le_trans hb2.size hbr.size)))⟩
            have g6 : decide (R < -1099511627776) = false := decide_eq_false hlo
            by_cases hhi : 1099511627776 < R
            · have g7 : decide (1099511627776 < R) = true := decide_eq_true hhi
              have hnn : ro = none := HNONE.out (by unfold numOf; rw [hrr, if_neg (by omega)])
              clear hlo hhi hrr
              go_wp2_with fail
              refine wp_onlyN ?_
              refine region_WQ (fun W' => Below wr.heap.size wr W') (by kernel_rfl) (by kernel_rfl) ⟨rfl, rfl, rfl, Nat.le_refl _, fun _ _ => rfl⟩ ?_
              refine WQ.take (.int .i64 R) (.inl ⟨by kernel_rfl, fun W' hS => by go_simp <;> exact hS⟩) ?_
              refine WQ.take (.bool false) (.inl ⟨by kernel_rfl, fun W' hS => by go_simp <;> exact hS⟩) ?_
              refine WQ.take (.bool false) (.inl ⟨by kernel_rfl, fun W' hS => by go_simp <;> exact hS⟩) ?_
              refine WQ.take (.int .i64 R) (.inl ⟨by kernel_rfl, fun W' hS => by go_simp <;> exact hS⟩) ?_
              refine WQ.take (.bool true) (.inl ⟨by kernel_rfl, fun W' hS => by go_simp <;> exact hS⟩) ?_
              refine WQ.take (.bool true) (.inl ⟨by kernel_rfl, fun W' hS => by go_simp <;> exact hS⟩) ?_
              refine WQ.take (.bool true) (.inl ⟨by kernel_rfl, fun W' hS => by go_simp <;> exact hS⟩) ?_
              refine WQ.take undef (.inr ⟨by kernel_rfl, rfl⟩) ?_
              refine WQ.take undef (.inr ⟨by kernel_rfl, rfl⟩) ?_
              refine WQ.take undef (.inr ⟨by kernel_rfl, rfl⟩) ?_
              refine WQ.take undef (.inr ⟨by kernel_rfl, rfl⟩) ?_
              refine WQ.take undef (.inr ⟨by kernel_rfl, rfl⟩) ?_
              refine WQ.take undef (.inr ⟨by kernel_rfl, rfl⟩) ?_
              refine WQ.take undef (.inr ⟨by kernel_rfl, rfl⟩) ?_
              refine WQ.take (.bool true) (.inl ⟨by kernel_rfl, fun W' hS => by go_simp <;> exact hS⟩) ?_
              refine WQ.nil ?_
              intro w3 hb3
              refine onlyN_mk ?_
              go_simp
              go_wp2_with fail
              go_ret2
              rw [hnn]
              exact ⟨_, rfl, OwnV.nil _ _ _, hb2.trans ((hbr.mono hb2.size).trans (hb3.mono (Nat.le_trans hb2.size hbr.size)))⟩
            have g7 : decide (1099511627776 < R) = false := decide_eq_false hhi
            have hgm : Gm R := ⟨by omega, by omega⟩
            have hdc := fun W' (hS : Below wr.heap.size wr W') => dec_any R W' ⟨by have := hgm.1; omega, by have := hgm.2; omega⟩
            obtain ⟨ds, hds⟩ : ∃ ds : ByteArray, (⟨(Lib.itoa R).toArray⟩ : ByteArray) = ds := ⟨_, rfl⟩
            have hdd : ds.data.toList = Lib.itoa R := by rw [← hds]
            rw [hds] at hdc
            have HDD := Lib.hid (toList_of hdd)
            clear hds hdd
            by_cases heq : Lib.itoa R = p
            case neg =>
              have g8 : (ds.toList == ps.toList) = false := by rw [HDD.out, HPL.out, beq_eq_false_iff_ne]; exact heq
              have hnn : ro = none := HNONE.out (by unfold numOf; rw [hrr, if_neg (fun h => heq h.2.2)])
              clear hlo hhi hrr heq hgm
              go_wp2_with fail
              refine wp_onlyN ?_
              refine region_WQ (fun W' => Below wr.heap.size wr W') (by kernel_rfl) (by kernel_rfl) ⟨rfl, rfl, rfl, Nat.le_refl _, fun _ _ => rfl⟩ ?_
              refine WQ.take (.int .i64 R) (.inl ⟨by kernel_rfl, fun W' hS => by go_simp <;> exact hS⟩) ?_
              refine WQ.take (.bool false) (.inl ⟨by kernel_rfl, fun W' hS => by go_simp <;> exact hS⟩) ?_
              refine WQ.take (.bool false) (.inl ⟨by kernel_rfl, fun W' hS => by go_simp <;> exact hS⟩) ?_
              refine WQ.take (.int .i64 R) (.inl ⟨by kernel_rfl, fun W' hS => by go_simp <;> exact hS⟩) ?_
              refine WQ.take (.bool false) (.inl ⟨by kernel_rfl, fun W' hS => by go_simp <;> exact hS⟩) ?_
              refine WQ.take (.bool false) (.inl ⟨by kernel_rfl, fun W' hS => by go_simp <;> exact hS⟩) ?_
              refine WQ.take (.bool false) (.inl ⟨by kernel_rfl, fun W' hS => by go_simp <;> exact hS⟩) ?_
              refine WQ.take (.int .i64 R) (.inl ⟨by kernel_rfl, fun W' hS => by go_simp <;> exact hS⟩) ?_
              refine WQ.take (.string ds) (.inl ⟨by kernel_rfl, fun W' hS => by go_simp <;> exact (hdc W' hS).mono fun e W'' ⟨h1, h2⟩ => ⟨h1, hS.trans (h2.mono hS.size)⟩⟩) ?_
              refine WQ.take (.slice (some ⟨g, 0, none⟩) ws.length cap) (.inl ⟨by kernel_rfl, fun W' hS => by go_simp <;> exact hS⟩) ?_
              refine WQ.take (.int .i64 j) (.inl ⟨by kernel_rfl, fun W' hS => by go_simp <;> exact hS⟩) ?_
              refine WQ.take (.pointer (some ⟨g, j, none⟩)) (.inl ⟨by kernel_rfl, fun W' hS => by go_simp <;> exact hS⟩) ?_
              refine WQ.take (.string ps) (.inl ⟨by kernel_rfl, fun W' hS => by have c1' := (hS.cell (p := ⟨g, j, none⟩) hgl).trans c1; go_simp <;> exact hS⟩) ?_
              refine WQ.take (.bool true) (.inl ⟨by kernel_rfl, fun W' hS => by go_simp <;> exact hS⟩) ?_
              refine WQ.take (.bool true) (.inl ⟨by kernel_rfl, fun W' hS => by go_simp <;> exact hS⟩) ?_
              refine WQ.nil ?_
              intro w3 hb3
              refine onlyN_mk ?_
              go_simp
              go_wp2_with fail
              go_ret2
              rw [hnn]
              exact ⟨_, rfl, OwnV.nil _ _ _, hb2.trans ((hbr.mono hb2.size).trans (hb3.mono (Nat.le_trans hb2.size hbr.size)))⟩
            case pos =>
              have g8 : (ds.toList == ps.toList) = true := by rw [HDD.out, HPL.out, heq]; simp
              have hnum : numOf p = some R := by unfold numOf; rw [hrr, if_pos ⟨hgm.1, hgm.2, heq⟩]
              have HNUM := Lib.hid hnum
              clear hlo hhi hrr heq hgm hnum
              go_wp2_with fail
              refine wp_onlyN ?_
              refine region_WQ (fun W' => Below wr.heap.size wr W') (by kernel_rfl) (by kernel_rfl) ⟨rfl, rfl, rfl, Nat.le_refl _, fun _ _ => rfl⟩ ?_
              refine WQ.take (.int .i64 R) (.inl ⟨by kernel_rfl, fun W' hS => by go_simp <;> exact hS⟩) ?_
              refine WQ.take (.bool false) (.inl ⟨by kernel_rfl, fun W' hS => by go_simp <;> exact hS⟩) ?_
              refine WQ.take (.bool false) (.inl ⟨by kernel_rfl, fun W' hS => by go_simp <;> exact hS⟩) ?_
              refine WQ.take (.int .i64 R) (.inl ⟨by kernel_rfl, fun W' hS => by go_simp <;> exact hS⟩) ?_
              refine WQ.take (.bool false) (.inl ⟨by kernel_rfl, fun W' hS => by go_simp <;> exact hS⟩) ?_
              refine WQ.take (.bool false) (.inl ⟨by kernel_rfl, fun W' hS => by go_simp <;> exact hS⟩) ?_
              refine WQ.take (.bool false) (.inl ⟨by kernel_rfl, fun W' hS => by go_simp <;> exact hS⟩) ?_
              refine WQ.take (.int .i64 R) (.inl ⟨by kernel_rfl, fun W' hS => by go_simp <;> exact hS⟩) ?_
              refine WQ.take (.string ds) (.inl ⟨by kernel_rfl, fun W' hS => by go_simp <;> exact (hdc W' hS).mono fun e W'' ⟨h1, h2⟩ => ⟨h1, hS.trans (h2.mono hS.size)⟩⟩) ?_
              refine WQ.take (.slice (some ⟨g, 0, none⟩) ws.length cap) (.inl ⟨by kernel_rfl, fun W' hS => by go_simp <;> exact hS⟩) ?_
              refine WQ.take (.int .i64 j) (.inl ⟨by kernel_rfl, fun W' hS => by go_simp <;> exact hS⟩) ?_
              refine WQ.take (.pointer (some ⟨g, j, none⟩)) (.inl ⟨by kernel_rfl, fun W' hS => by go_simp <;> exact hS⟩) ?_
              refine WQ.take (.string ps) (.inl ⟨by kernel_rfl, fun W' hS => by have c1' := (hS.cell (p := ⟨g, j, none⟩) hgl).trans c1; go_simp <;> exact hS⟩) ?_
              refine WQ.take (.bool false) (.inl ⟨by kernel_rfl, fun W' hS => by go_simp <;> exact hS⟩) ?_
              refine WQ.take (.bool false) (.inl ⟨by kernel_rfl, fun W' hS => by go_simp <;> exact hS⟩) ?_
              refine WQ.nil ?_
              intro w3 hb3
              refine onlyN_mk ?_
              go_simp
              have hO3 := hO.old hb3
              have hbs3 : w2.heap.size ≤ w3.heap.size := Nat.le_trans hbr.size hb3.size
              go_wp2_with (at_builtin; refine wpList_append_V rfl (.tmp 120) (.tmp 122) 44 3 8 (.int .i64 0) Tryz.underlying44 Tryz.infoInt rfl (by omega) rfl w3 (.int .i64 R) rfl rfl rfl hO3 HNL.out hbs3 ?_; intro v' w4 hown hgr hbe)
              refine ⟨⟨j + 1, ns ++ [R], ⟨by omega, by omega⟩, by go_num, ?_, (hbr.trans (hb3.mono hbr.size)).trans (hbe.mono (Nat.le_refl _)), ?_, by rw [List.length_append]; have := HNJ.out; simp; omega⟩, by simp [intOf]; omega⟩
              · rw [List.map_append]; exact hown
              · have ht : ws.tail.take (j + 1 - 1) = ws.tail.take (j - 1) ++ [p] := by
                  rw [show j + 1 - 1 = (j - 1) + 1 by omega, List.take_add_one, List.getElem?_tail, show j - 1 + 1 = j by omega, HP.out]; rfl
                rw [ht]
                exact numsOf_snoc HNS.out p HNUM.out
    · obtain rfl : j = ws.length := by omega
      go_wp2_with fail
      go_ret2
      have hnn : ro = some ns := by rw [HR.out, ← HNS.out, List.take_of_length_le (by simp)]
      rw [hnn]
      refine ⟨_, rfl, ?_, hb2.trans (hbr.mono hb2.size)⟩
      exact OwnV.mono hO hb2.size
end Go.Proofs.YtaccaebdmndkiaaGreatDoor
