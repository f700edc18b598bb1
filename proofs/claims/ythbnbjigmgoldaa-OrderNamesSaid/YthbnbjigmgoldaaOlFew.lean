/- The statements' function Few of layer 15. No conditions beyond the readings of the arguments. -/
import Derived.Test.YthbnbjigmgoldaaOClM
import Derived.Test.YthbnbjigmgoldaaOlSize
namespace Go.Proofs.Ythbnbjigmgoldaa
open Go.RowKit
set_option linter.unusedVariables false

/-- What is left of a number of parts behind some expressions. -/
def leftE : Nat → List Ex → Option Nat
  | l, [] => some l
  | l, e :: r => if sizeE 24 l e ≤ l then leftE (l - sizeE 24 l e) r else none
def exsOf (cs : List Cl) : List Ex := cs.flatMap fun c => [c.wh, c.th]
theorem leftE_append (l : Nat) (a b : List Ex) : leftE l (a ++ b) = (leftE l a).bind fun r => leftE r b := by
  induction a generalizing l with
  | nil => rfl
  | cons e r ih =>
    rw [List.cons_append, leftE, leftE]
    split
    · exact ih _
    · rfl
theorem leftE_one (l : Nat) (e : Ex) : leftE l [e] = if sizeE 24 l e ≤ l then some (l - sizeE 24 l e) else none := by rw [leftE]; rfl
theorem leftE_le {l r : Nat} {es : List Ex} (h : leftE l es = some r) : r ≤ l := by
  induction es generalizing l with
  | nil => simp only [leftE, Option.some.injEq] at h; omega
  | cons e t ih =>
    rw [leftE] at h
    split at h
    · have := ih h; omega
    · cases h
def fewB (p : Pl) : Bool := decide (p.defs.length ≤ 40) && decide (p.cls.length ≤ 60) && (leftE 300 (exsOf p.cls)).isSome
theorem exsOf_take (cs : List Cl) (k : Nat) (x : Cl) (hx : cs[k]? = some x) : exsOf (cs.take (k + 1)) = exsOf (cs.take k) ++ [x.wh, x.th] := by
  have hlt := (List.getElem?_eq_some_iff.1 hx).1
  rw [List.take_succ_eq_append_getElem hlt, exsOf, List.flatMap_append, show cs[k] = x by rw [List.getElem?_eq_getElem hlt] at hx; exact Option.some.inj hx]
  rfl
theorem few_none {p : Pl} {k : Nat} {x : Cl} {a : List Ex} (hx : p.cls[k]? = some x) (ha : leftE 300 (exsOf (p.cls.take k) ++ a) = none) (hp : a <+: [x.wh, x.th]) : fewB p = false := by
  obtain ⟨t, ht⟩ := hp
  have h1 : exsOf p.cls = (exsOf (p.cls.take k) ++ a) ++ (t ++ exsOf (p.cls.drop (k + 1))) := by
    conv => lhs; rw [← List.take_append_drop (k + 1) p.cls]
    rw [exsOf, List.flatMap_append]
    have := exsOf_take p.cls k x hx
    unfold exsOf at this ⊢
    rw [this, ← ht]; simp
  unfold fewB
  rw [h1, leftE_append, ha]; simp
theorem few_all {p : Pl} {L : Nat} (h1 : p.defs.length ≤ 40) (h2 : p.cls.length ≤ 60) (h : leftE 300 (exsOf p.cls) = some L) : fewB p = true := by simp [fewB, h1, h2, h]
theorem few_far {p : Pl} (h : 40 < p.defs.length ∨ 60 < p.cls.length) : fewB p = false := by
  unfold fewB
  rcases h with h | h
  · rw [decide_eq_false (by omega)]; rfl
  · rw [decide_eq_false (p := p.cls.length ≤ 60) (by omega)]; simp

set_option maxRecDepth 100000 in
set_option maxHeartbeats 4000000 in
theorem few_any (K : Nat) (p : Pl) (nm : ByteArray) (vd vt vc : Value) (w : World) (h : PlanIs K w vd vc p) (hK : K ≤ w.heap.size) :
    Calls Try.prog 10 #[.agg #[.string nm, vd, vt, vc]] w fun en w' => en = .returned (.bool (fewB p)) ∧ Below w.heap.size w w' := by
  obtain ⟨hd, cg, hcg, hcgi⟩ := h
  obtain ⟨dg, hdg, _⟩ := hd
  obtain ⟨da, dcap, rfl, hd1, hd2⟩ := id hdg.form
  obtain ⟨ca, ccap, rfl, hc1, hc2⟩ := id hcg.form
  clear hdg
  unfold maxLen at hd2 hc2
  obtain ⟨B0, hB0⟩ : ∃ B0, w.heap.size = B0 := ⟨_, rfl⟩
  rw [hB0] at hK ⊢
  obtain ⟨W1, hW1⟩ : ∃ W1, w.alloc (.cells #[.string nm, .slice da p.defs.length dcap, vt, .slice ca p.cls.length ccap] 26) = W1 := ⟨_, rfl⟩
  have hb1 : Below B0 w W1 := hW1 ▸ (Below.refl B0 w).alloc (by omega) _
  have hs1 : W1.heap.size = B0 + 1 := by rw [← hW1, ← hB0]; simp
  have q1 : Blk W1 B0 #[.string nm, .slice da p.defs.length dcap, vt, .slice ca p.cls.length ccap] 26 := by rw [← hW1, ← hB0]; exact Blk.new w _ _
  obtain ⟨d0, d1, d2, d3⟩ := q1.four
  have HB := Lib.hid hB0
  have HW1 := Lib.hid hW1
  obtain ⟨fb, hfb⟩ : ∃ fb, fewB p = fb := ⟨_, rfl⟩
  rw [hfb]
  have HFB := Lib.hid hfb
  obtain ⟨n1, hn1⟩ : ∃ n1, p.defs.length = n1 := ⟨_, rfl⟩
  obtain ⟨cs, hcs⟩ : ∃ cs, p.cls = cs := ⟨_, rfl⟩
  rw [hn1] at d1 hd1 HW1 ⊢
  rw [hcs] at d3 hc1 hcg hcgi HW1 ⊢
  have HN1 := Lib.hid hn1
  have HCS := Lib.hid hcs
  clear hB0 hW1 hfb hn1 hcs d0 d2 q1
  by_cases hdl : 40 < n1
  · have HE : Hid (false = fb) := Lib.hid (by rw [← HFB.out, few_far (.inl (by rw [HN1.out]; exact hdl))])
    clear hcg hcgi
    go_enter Try.func10, Try.ntmps10
    go_wp2_with fail
    simp only [HB.out]
    rw [HW1.out]
    go_wp2_with fail
    go_ret
    exact ⟨by rw [← HE.out]; rfl, hb1⟩
  by_cases hcl : 60 < cs.length
  · have HE : Hid (false = fb) := Lib.hid (by rw [← HFB.out, few_far (.inr (by rw [HCS.out]; exact hcl))])
    clear hcg hcgi
    go_enter Try.func10, Try.ntmps10
    go_wp2_with fail
    simp only [HB.out]
    rw [HW1.out]
    go_wp2_with fail
    go_ret
    exact ⟨by rw [← HE.out]; rfl, hb1⟩
  go_enter Try.func10, Try.ntmps10
  go_wp2_with fail
  simp only [HB.out]
  rw [HW1.out]
  go_wp2_with fail
  go_loopw [3, 22] (fun lv i wr => ∃ (k L : Nat), k ≤ cs.length ∧ i = .int .i64 k ∧ lv = .int .i64 L ∧ L ≤ 300 ∧ Hid (leftE 300 (exsOf (cs.take k)) = some L) ∧ Below B0 w wr ∧ B0 + 1 ≤ wr.heap.size) (fun _ i _ => cs.length - (intOf i).toNat)
  case atStart => exact ⟨0, 300, Nat.zero_le _, rfl, rfl, by omega, Lib.hid (by rw [List.take_zero]; rfl), hb1, by omega⟩
  case round =>
    obtain ⟨k, L, hk, rfl, rfl, hL, HL, hbr, hsr⟩ := hrel
    obtain ⟨wo, rfl⟩ : ∃ wo : World, wo = wr := ⟨_, rfl⟩
    by_cases hlt : k < cs.length
    · obtain ⟨b, o, cap, he, _, _, hbK, hc⟩ := hcg.pos (by omega)
      simp only [Value.slice.injEq, true_and] at he
      obtain ⟨rfl, rfl⟩ := he
      have hcc := cl_range (cells_below hbr (Nat.lt_of_lt_of_le hbK hK) hc) hlt
      obtain ⟨x, hx⟩ : ∃ x, cs[k]? = some x := ⟨_, List.getElem?_eq_getElem hlt⟩
      have hxx := hcgi k x hx
      obtain ⟨c, hcd⟩ : ∃ c, cg k = c := ⟨_, rfl⟩
      rw [hcd] at hcc hxx
      obtain ⟨hxn, hxl, hxw, hxt⟩ := hxx
      have hqc := Blk.new wo c.cl.toArray 56
      obtain ⟨xr1, xr2⟩ := ex_range _ _ c hqc
      have HX := Lib.hid hx
      clear hc hcd hx hxn hcg hcgi
      go_wp2_with (first
        | (refine wpList_load_mid rfl 56 (.tmp 24) rfl b (o + k * 24) rfl c.cl _ hcc Try.underlying56 rfl (infoCl' c) ?_)
        | (refine wpList_store_cl rfl (.tmp 5) (.tmp 25) rfl c _ (by rfl) rfl rfl ?_)
        | (refine wpList_load_mid rfl 45 (.tmp 26) rfl wo.heap.size 6 rfl c.wh.cells.toList _ xr1 Try.underlying45 rfl infoEx ?_)
        | (refine wpList_load_mid rfl 45 (.tmp 28) rfl wo.heap.size 15 rfl c.th.cells.toList _ xr2 Try.underlying45 rfl infoEx ?_))
      obtain ⟨W5, hW5⟩ : ∃ W5, (wo.alloc (.cells c.cl.toArray 56)).alloc (.cells #[.int .u8 c.wh.op, S c.wh.nm, .int .u8 c.wh.kd, .bool c.wh.b3, .slice c.wh.s4.a c.wh.s4.n c.wh.s4.m, .bool c.wh.b5, .slice c.wh.s6.a c.wh.s6.n c.wh.s6.m, .int .i64 c.wh.i7, .slice c.wh.s8.a c.wh.s8.n c.wh.s8.m, .int .u8 c.th.op, S c.th.nm, .int .u8 c.th.kd, .bool c.th.b3, .slice c.th.s4.a c.th.s4.n c.th.s4.m, .bool c.th.b5, .slice c.th.s6.a c.th.s6.n c.th.s6.m, .int .i64 c.th.i7, .slice c.th.s8.a c.th.s8.n c.th.s8.m] 45) = W5 := ⟨_, rfl⟩
      have hb5 : Below B0 w W5 := hW5 ▸ (hbr.alloc (by omega) _).alloc (by simp; omega) _
      obtain ⟨SB, hSB⟩ : ∃ SB, wo.heap.size + 1 = SB := ⟨_, rfl⟩
      have q5 : Blk W5 SB #[.int .u8 c.wh.op, S c.wh.nm, .int .u8 c.wh.kd, .bool c.wh.b3, .slice c.wh.s4.a c.wh.s4.n c.wh.s4.m, .bool c.wh.b5, .slice c.wh.s6.a c.wh.s6.n c.wh.s6.m, .int .i64 c.wh.i7, .slice c.wh.s8.a c.wh.s8.n c.wh.s8.m, .int .u8 c.th.op, S c.th.nm, .int .u8 c.th.kd, .bool c.th.b3, .slice c.th.s4.a c.th.s4.n c.th.s4.m, .bool c.th.b5, .slice c.th.s6.a c.th.s6.n c.th.s6.m, .int .i64 c.th.i7, .slice c.th.s8.a c.th.s8.n c.th.s8.m] 45 := by
        rw [← hW5, ← hSB]
        have := Blk.new (wo.alloc (.cells c.cl.toArray 56)) #[.int .u8 c.wh.op, S c.wh.nm, .int .u8 c.wh.kd, .bool c.wh.b3, .slice c.wh.s4.a c.wh.s4.n c.wh.s4.m, .bool c.wh.b5, .slice c.wh.s6.a c.wh.s6.n c.wh.s6.m, .int .i64 c.wh.i7, .slice c.wh.s8.a c.wh.s8.n c.wh.s8.m, .int .u8 c.th.op, S c.th.nm, .int .u8 c.th.kd, .bool c.th.b3, .slice c.th.s4.a c.th.s4.n c.th.s4.m, .bool c.th.b5, .slice c.th.s6.a c.th.s6.n c.th.s6.m, .int .i64 c.th.i7, .slice c.th.s8.a c.th.s8.n c.th.s8.m] 45
        rw [World.size_alloc] at this
        exact this
      rw [hW5, hSB]
      clear hW5 hcc xr1 xr2 hqc
      go_loopw [3, 32] (fun lv j wi => ∃ L', lv = .int .i64 (L' : Nat) ∧ L' ≤ 300 ∧ ((j = .int .i64 0 ∧ Hid (leftE 300 (exsOf (cs.take k)) = some L')) ∨ (j = .int .i64 1 ∧ Hid (leftE 300 (exsOf (cs.take k) ++ [x.wh]) = some L')) ∨ (j = .int .i64 2 ∧ Hid (leftE 300 (exsOf (cs.take (k + 1))) = some L'))) ∧ Below B0 w wi ∧ Blk wi SB #[.int .u8 c.wh.op, S c.wh.nm, .int .u8 c.wh.kd, .bool c.wh.b3, .slice c.wh.s4.a c.wh.s4.n c.wh.s4.m, .bool c.wh.b5, .slice c.wh.s6.a c.wh.s6.n c.wh.s6.m, .int .i64 c.wh.i7, .slice c.wh.s8.a c.wh.s8.n c.wh.s8.m, .int .u8 c.th.op, S c.th.nm, .int .u8 c.th.kd, .bool c.th.b3, .slice c.th.s4.a c.th.s4.n c.th.s4.m, .bool c.th.b5, .slice c.th.s6.a c.th.s6.n c.th.s6.m, .int .i64 c.th.i7, .slice c.th.s8.a c.th.s8.n c.th.s8.m] 45) (fun _ j _ => (2 - intOf j).toNat)
      case atStart => exact ⟨L, rfl, hL, .inl ⟨rfl, HL⟩, hb5, q5⟩
      case round =>
        obtain ⟨L', rfl, hL', hcase, hbwi, hbi⟩ := hrel
        obtain ⟨wi, rfl⟩ : ∃ wi : World, wi = wr := ⟨_, rfl⟩
        have hbiz := hbi.lt
        rcases hcase with ⟨rfl, HL2⟩ | ⟨rfl, HL2⟩ | ⟨rfl, HL2⟩
        · -- round 0
          have f0 : wi.cell? ⟨SB, 0, none⟩ = _ := hbi.at rfl
          have f1 : wi.cell? ⟨SB, 1, none⟩ = _ := hbi.at rfl
          have f2 : wi.cell? ⟨SB, 2, none⟩ = _ := hbi.at rfl
          have f3 : wi.cell? ⟨SB, 3, none⟩ = _ := hbi.at rfl
          have f4 : wi.cell? ⟨SB, 4, none⟩ = _ := hbi.at rfl
          have f5 : wi.cell? ⟨SB, 5, none⟩ = _ := hbi.at rfl
          have f6 : wi.cell? ⟨SB, 6, none⟩ = _ := hbi.at rfl
          have f7 : wi.cell? ⟨SB, 7, none⟩ = _ := hbi.at rfl
          have f8 : wi.cell? ⟨SB, 8, none⟩ = _ := hbi.at rfl
          have hbe : Below B0 w (wi.alloc (.cells c.wh.cells 45)) := hbwi.alloc (by omega) _
          have hcall := Size_any K L' x.wh c.wh (wi.alloc (.cells c.wh.cells 45)) (hxw.below hbe hK (Nat.le_refl _)) (by simp; omega) (by omega)
          obtain ⟨z, hz⟩ : ∃ z, sizeE 24 L' x.wh = z := ⟨_, rfl⟩
          rw [hz] at hcall
          have HZ := Lib.hid hz
          clear hz
          by_cases hzl : z ≤ L'
          · have HN : Hid (leftE 300 (exsOf (cs.take k) ++ [x.wh]) = some (L' - z)) := Lib.hid (by
              rw [leftE_append, HL2.out, Option.bind_some, leftE_one, HZ.out, if_pos hzl])
            have hcast : ((L' - z : Nat) : Int) = (L' : Int) - z := by omega
            go_wp2_with fail
            refine hcall.mono ?_
            rintro en w5 ⟨rfl, hb5⟩
            have hbi5 := (hbi.alloc (.cells c.wh.cells 45)).below hb5 (hbi.alloc _).lt
            have hs5 := hb5.size
            simp only [World.size_alloc] at hs5
            go_wp2_with fail
            exact ⟨⟨L' - z, by rw [hcast], by omega, .inr (.inl ⟨by go_num, HN⟩), hbe.trans (hb5.mono (by simp; omega)), hbi5⟩, by simp [intOf]⟩
          · have HE : Hid (false = fb) := Lib.hid (by
              rw [← HFB.out]; symm
              refine few_none (k := k) (x := x) (a := [x.wh]) (by rw [HCS.out]; exact HX.out) ?_ ⟨[x.th], rfl⟩
              rw [HCS.out, leftE_append, HL2.out, Option.bind_some, leftE_one, HZ.out, if_neg hzl])
            go_wp2_with fail
            refine hcall.mono ?_
            rintro en w5 ⟨rfl, hb5⟩
            go_wp2_with fail
            go_ret
            exact ⟨by rw [← HE.out]; rfl, hbe.trans (hb5.mono (by simp; omega))⟩
        · -- round 1
          have f0 : wi.cell? ⟨SB, 9, none⟩ = _ := hbi.at rfl
          have f1 : wi.cell? ⟨SB, 10, none⟩ = _ := hbi.at rfl
          have f2 : wi.cell? ⟨SB, 11, none⟩ = _ := hbi.at rfl
          have f3 : wi.cell? ⟨SB, 12, none⟩ = _ := hbi.at rfl
          have f4 : wi.cell? ⟨SB, 13, none⟩ = _ := hbi.at rfl
          have f5 : wi.cell? ⟨SB, 14, none⟩ = _ := hbi.at rfl
          have f6 : wi.cell? ⟨SB, 15, none⟩ = _ := hbi.at rfl
          have f7 : wi.cell? ⟨SB, 16, none⟩ = _ := hbi.at rfl
          have f8 : wi.cell? ⟨SB, 17, none⟩ = _ := hbi.at rfl
          have hbe : Below B0 w (wi.alloc (.cells c.th.cells 45)) := hbwi.alloc (by omega) _
          have hcall := Size_any K L' x.th c.th (wi.alloc (.cells c.th.cells 45)) (hxt.below hbe hK (Nat.le_refl _)) (by simp; omega) (by omega)
          obtain ⟨z, hz⟩ : ∃ z, sizeE 24 L' x.th = z := ⟨_, rfl⟩
          rw [hz] at hcall
          have HZ := Lib.hid hz
          clear hz
          by_cases hzl : z ≤ L'
          · have HN : Hid (leftE 300 (exsOf (cs.take (k + 1))) = some (L' - z)) := Lib.hid (by
              rw [exsOf_take cs k x HX.out, show [x.wh, x.th] = [x.wh] ++ [x.th] from rfl, ← List.append_assoc, leftE_append, HL2.out, Option.bind_some, leftE_one, HZ.out, if_pos hzl])
            have hcast : ((L' - z : Nat) : Int) = (L' : Int) - z := by omega
            go_wp2_with fail
            refine hcall.mono ?_
            rintro en w5 ⟨rfl, hb5⟩
            have hbi5 := (hbi.alloc (.cells c.th.cells 45)).below hb5 (hbi.alloc _).lt
            have hs5 := hb5.size
            simp only [World.size_alloc] at hs5
            go_wp2_with fail
            exact ⟨⟨L' - z, by rw [hcast], by omega, .inr (.inr ⟨by go_num, HN⟩), hbe.trans (hb5.mono (by simp; omega)), hbi5⟩, by simp [intOf]⟩
          · have HE : Hid (false = fb) := Lib.hid (by
              rw [← HFB.out]; symm
              refine few_none (k := k) (x := x) (a := [x.wh] ++ [x.th]) (by rw [HCS.out]; exact HX.out) ?_ ⟨[], rfl⟩
              rw [HCS.out, ← List.append_assoc, leftE_append, HL2.out, Option.bind_some, leftE_one, HZ.out, if_neg hzl])
            go_wp2_with fail
            refine hcall.mono ?_
            rintro en w5 ⟨rfl, hb5⟩
            go_wp2_with fail
            go_ret
            exact ⟨by rw [← HE.out]; rfl, hbe.trans (hb5.mono (by simp; omega))⟩
        · go_wp2_with fail
          exact ⟨⟨k + 1, L', by omega, by go_num, rfl, hL', HL2, hbwi, by omega⟩, by simp [intOf]; omega⟩
    · obtain rfl : k = cs.length := by omega
      have HE : Hid (true = fb) := Lib.hid (by rw [← HFB.out, few_all (by rw [HN1.out]; omega) (by rw [HCS.out]; omega) (by rw [HCS.out, ← HL.out, List.take_length])])
      go_wp2_with fail
      go_ret
      exact ⟨by rw [← HE.out]; rfl, hbr⟩
end Go.Proofs.Ythbnbjigmgoldaa
