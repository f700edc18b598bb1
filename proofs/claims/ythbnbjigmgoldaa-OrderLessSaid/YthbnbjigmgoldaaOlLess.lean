/- OrderLess: the walk. No conditions beyond the readings of the arguments. -/
import Derived.Test.YthbnbjigmgoldaaOlCx
import Derived.Test.YthbnbjigmgoldaaOlLessS
import Derived.Test.YthbnbjigmgoldaaOlRow
import Derived.Test.YthbnbjigmgoldaaORow0
namespace Go.Proofs.Ythbnbjigmgoldaa
open Go.RowKit
set_option linter.unusedVariables false
theorem plan_one (nm : ByteArray) (a b : Option Addr) (n m n' m' : Nat) (vt : Value) (h : vt.oneCell' = true) : (#[Value.string nm, .slice a n m, vt, .slice b n' m'] : Array Value).all (·.oneCell') = true := by
  refine all_oneCell_toArray (cs := [Value.string nm, .slice a n m, vt, .slice b n' m']) fun v hv => ?_
  simp only [List.mem_cons, List.not_mem_nil, or_false] at hv
  rcases hv with rfl | rfl | rfl | rfl
  · rfl
  · rfl
  · exact h
  · rfl
theorem skip_get {α : Type} {l : List α} {k i : Nat} (hk : k < l.length) : (l.take k ++ l.drop (k + 1))[i]? = l[if i < k then i else i + 1]? := by
  by_cases h : i < k
  · rw [List.getElem?_append_left (by rw [List.length_take]; omega), List.getElem?_take_of_lt h, if_pos h]
  · rw [List.getElem?_append_right (by rw [List.length_take]; omega), List.getElem?_drop, List.length_take, if_neg h]
    congr 1; omega
theorem more_get {α : Type} {l : List α} {k i : Nat} (hk : k < l.length) : ((l.drop k).take 1 ++ l)[i]? = l[if i = 0 then k else i - 1]? := by
  have h1 : ((l.drop k).take 1).length = 1 := by rw [List.length_take, List.length_drop]; omega
  by_cases h : i = 0
  · subst h
    rw [List.getElem?_append_left (by omega), List.getElem?_take_of_lt (by omega), List.getElem?_drop, if_pos rfl]; rfl
  · rw [List.getElem?_append_right (by omega), h1, if_neg h]
theorem drop_take1 {α : Type} {l : List α} {k : Nat} {c : α} (h : l[k]? = some c) : (l.drop k).take 1 = [c] := by
  have hk := (List.getElem?_eq_some_iff.1 h).1
  rw [List.drop_eq_getElem_cons hk]
  rw [List.getElem?_eq_getElem hk] at h
  simp [Option.some.inj h]
/-- The three plans' boxes. -/
structure Lx (K : Nat) (nm : ByteArray) (vd vt vc vl vm : Value) (p : Pl) (k : Nat) (w : World) (b6 b7 : Nat) (W : World) : Prop where
  cx : Cx K nm vd vt vc p w W
  l : Blk W b6 #[.string nm, vd, vt, vl] 26
  m : Blk W b7 #[.string nm, vd, vt, vm] 26
  pl : PlanIs W.heap.size W vd vl (lessP p k)
  pm : PlanIs W.heap.size W vd vm (moreP p k)
theorem Lx.below {K : Nat} {nm : ByteArray} {vd vt vc vl vm : Value} {p : Pl} {k : Nat} {w : World} {b6 b7 : Nat} {W W' : World} (h : Lx K nm vd vt vc vl vm p k w b6 b7 W) (hb : Below W.heap.size W W') : Lx K nm vd vt vc vl vm p k w b6 b7 W' :=
  ⟨h.cx.below hb, h.l.below hb h.l.lt, h.m.below hb h.m.lt, h.pl.below hb (Nat.le_refl _) hb.size, h.pm.below hb (Nat.le_refl _) hb.size⟩
theorem infoPlan : (Try.prog.info? 26).map (fun i => i.size) = some 4 := by kernel_rfl
theorem grownBy_setRow {W : World} {b : Nat} (cs : Array Value) : W.grownBy (W.setRow b cs) (some b) := by
  refine ⟨rfl, rfl, rfl, by simp, fun r _ hr => ?_⟩
  have hr' : b ≠ r := fun e => hr (by rw [e])
  simp [World.setRow, Array.getElem?_modify, hr']

set_option maxRecDepth 100000 in
set_option maxHeartbeats 40000000 in
theorem less_walk (K : Nat) (p : Pl) (nm : ByteArray) (vd vt vc : Value) (n : Int) (w : World) (h : PlanIs K w vd vc p) (hv1 : vt.oneCell' = true) (hn0 : 0 ≤ n) (hn1 : n ≤ 255) (hK : K ≤ w.heap.size) :
    Calls Try.prog 8 #[.agg #[.string nm, vd, vt, vc], .int .u8 n] w fun e w' => e = .returned (.bool true) ∧ Below w.heap.size w w' := by
  obtain ⟨da, dn, dm, rfl⟩ : ∃ a n m, vd = .slice a n m := by obtain ⟨g, hg, _⟩ := h.1; obtain ⟨a, m, hv, _⟩ := hg.form; exact ⟨a, _, m, hv⟩
  obtain ⟨ca, cn, cm, rfl⟩ : ∃ a n m, vc = .slice a n m := by obtain ⟨g, hg, _⟩ := h.2; obtain ⟨a, m, hv, _⟩ := hg.form; exact ⟨a, _, m, hv⟩
  have hx := Cx.start (nm := nm) (vt := vt) h hK
  obtain ⟨W1, hW1⟩ : ∃ W1, w.alloc (.cells #[.string nm, .slice da dn dm, vt, .slice ca cn cm] 26) = W1 := ⟨_, rfl⟩
  rw [hW1] at hx
  have HW1 := Lib.hid hW1
  clear hW1
  obtain ⟨d0, d1, d2, d3⟩ := hx.box.four
  have hf := few_any K p nm _ vt _ W1 hx.plan hx.big
  go_enter Try.func8, Try.ntmps8
  go_wp2_with fail
  rw [HW1.out]
  go_wp2_with fail
  refine hf.mono ?_
  rintro e w2 ⟨rfl, b2⟩
  replace hx := hx.below b2
  obtain ⟨fb, hfb⟩ : ∃ fb, fewB p = fb := ⟨_, rfl⟩
  rw [hfb]
  clear hf b2 d0 d1 d2 d3
  cases fb with
  | false =>
    go_wp2_with fail
    refine (awake_any w2).mono ?_
    rintro e w3 ⟨rfl, b3⟩
    go_wp2_with fail
    go_ret
    exact ⟨rfl, (hx.below b3).bel⟩
  | true =>
    have hsz := few_size hfb
    have hnl := few_names hfb
    have hdl := (few_parts hfb).1
    have HFB := Lib.hid hfb
    clear hfb
    have hcnE : cn = p.cls.length := by obtain ⟨g, hg, _⟩ := h.2; obtain ⟨a, m, hv, _⟩ := hg.form; simp only [Value.slice.injEq] at hv; exact hv.2.1
    have HCN := Lib.hid hcnE
    clear hcnE
    obtain ⟨d0, d1, d2, d3⟩ := hx.box.four
    by_cases hc0 : cn = 0
    · subst hc0
      go_wp2_with fail
      refine (awake_any w2).mono ?_
      rintro e w3 ⟨rfl, b3⟩
      go_wp2_with fail
      go_ret
      exact ⟨rfl, (hx.below b3).bel⟩
    obtain ⟨n, rfl⟩ : ∃ m : Nat, n = m := ⟨n.toNat, by omega⟩
    have hrem : (n : Int) % (cn : Int) = ((n % cn : Nat) : Int) := (Int.natCast_emod _ _).symm
    have hcz : ¬ ((cn : Int) = 0) := by omega
    have hkl : n % cn < cn := Nat.mod_lt _ (by omega)
    have hcl : cn ≤ 60 := by rw [HCN.out]; exact (few_parts HFB.out).2.1
    obtain ⟨k, hkE⟩ : ∃ k, n % cn = k := ⟨_, rfl⟩
    rw [hkE] at hrem hkl
    clear hkE
    go_upto_region 4 with fail
    clear d0 d1 d2 d3
    rename_i K4 hK4
    have key : ∀ (b6 b7 : Nat) (W : World), b6 ≠ b7 → w2.heap.size ≤ b6 → w2.heap.size ≤ b7 → Blk W b6 #[.string nm, .slice da dn dm, vt, .slice ca cn cm] 26 → Blk W b7 #[.string nm, .slice da dn dm, vt, .slice ca cn cm] 26 → Below w2.heap.size w2 W → ∀ (x0 x1 x3 x8 x9 x10 x11 x12 x13 x14 x15 x16 x17 x18 x19 x20 x21 x22 x23 x24 x25 x26 x27 x28 x29 x30 x31 x32 x33 x34 x35 x36 x37 x38 x39 x40 x41 x42 x43 x44 x45 x46 x47 x48 x49 x50 x51 x52 x53 x54 x55 x56 x57 x58 x59 x60 x61 x62 x63 x64 x65 x66 x67 x68 x69 x70 x71 x72 x73 x74 x75 x76 x77 x78 x79 x80 x81 x82 x83 x84 x85 x86 x87 x88 x89 x90 x91 x92 x93 x94 x95 x96 x97 x98 x99 x100 x101 x102 x103 x104 x105 x106 x107 x108 x109 x110 x111 x112 x113 x114 x115 x116 x117 x118 x119 x120 x121 x122 x123 x124 : Value), K4 { tmps := #[x0, x1, .pointer (some ⟨w.heap.size, 0, none⟩), x3, .bool false, .int .i64 k, .pointer (some ⟨b6, 0, none⟩), .pointer (some ⟨b7, 0, none⟩), x8, x9, x10, x11, x12, x13, x14, x15, x16, x17, x18, x19, x20, x21, x22, x23, x24, x25, x26, x27, x28, x29, x30, x31, x32, x33, x34, x35, x36, x37, x38, x39, x40, x41, x42, x43, x44, x45, x46, x47, x48, x49, x50, x51, x52, x53, x54, x55, x56, x57, x58, x59, x60, x61, x62, x63, x64, x65, x66, x67, x68, x69, x70, x71, x72, x73, x74, x75, x76, x77, x78, x79, x80, x81, x82, x83, x84, x85, x86, x87, x88, x89, x90, x91, x92, x93, x94, x95, x96, x97, x98, x99, x100, x101, x102, x103, x104, x105, x106, x107, x108, x109, x110, x111, x112, x113, x114, x115, x116, x117, x118, x119, x120, x121, x122, x123, x124], defers := [] } W := by
      intro b6 b7 W hne hb6 hb7 q6 q7 bW x0 x1 x3 x8 x9 x10 x11 x12 x13 x14 x15 x16 x17 x18 x19 x20 x21 x22 x23 x24 x25 x26 x27 x28 x29 x30 x31 x32 x33 x34 x35 x36 x37 x38 x39 x40 x41 x42 x43 x44 x45 x46 x47 x48 x49 x50 x51 x52 x53 x54 x55 x56 x57 x58 x59 x60 x61 x62 x63 x64 x65 x66 x67 x68 x69 x70 x71 x72 x73 x74 x75 x76 x77 x78 x79 x80 x81 x82 x83 x84 x85 x86 x87 x88 x89 x90 x91 x92 x93 x94 x95 x96 x97 x98 x99 x100 x101 x102 x103 x104 x105 x106 x107 x108 x109 x110 x111 x112 x113 x114 x115 x116 x117 x118 x119 x120 x121 x122 x123 x124
      refine hK4 _ _ ?_
      have hxW := hx.below bW
      have q60 := q6
      have q70 := q7
      have hC := hxW.plan.2
      obtain ⟨b, o, cap, vs, hse, hlc, hcm, hbK, hvl, hsrc, hsx⟩ := hC.src (by rw [← HCN.out]; omega)
      rw [← HCN.out] at hse hlc hvl
      simp only [Value.slice.injEq, true_and] at hse
      obtain ⟨rfl, rfl⟩ := hse
      have hbW : b < W.heap.size := Nat.lt_of_lt_of_le hbK (Nat.le_trans hx.big bW.size)
      unfold maxLen at hcm
      have hw1 : IntKind.i64.wrap ((k : Int) + 1) = (k : Int) + 1 := IntWalk.i64_in _ (by omega)
      have hkm : ¬ (cm < k) := by omega
      have hcm0 : ¬ (cm = 0) := by omega
      have hk0 : ¬ ((k : Int) + 1 < 0) := by omega
      have hkm1 : ¬ ((cn : Int) < (k : Int) + 1) := by omega
      obtain ⟨ao, hao1, hao2⟩ : ∃ ao : Option Addr, (cm = k + 1 → ao = some ⟨b, o, none⟩) ∧ (¬ cm = k + 1 → ao = some ⟨b, o + (k + 1) * 24, none⟩) := by
        by_cases e : cm = k + 1
        · exact ⟨_, fun _ => rfl, fun h => absurd e h⟩
        · exact ⟨_, fun h => absurd h e, fun _ => rfl⟩
      have hdr : Below W.heap.size W W.drew := (Below.refl _ W).drew
      go_upto_region 5 with fail
      rename_i K5 hK5
      have key5 : ∀ (W5 : World) (la : Option Addr) (ll lc : Nat), Cx K nm (.slice da dn dm) vt (.slice (some ⟨b, o, none⟩) cn cm) p w W5 → Below w2.heap.size w2 W5 → Blk W5 b6 #[.string nm, .slice da dn dm, vt, .slice la ll lc] 26 → Blk W5 b7 #[.string nm, .slice da dn dm, vt, .slice (some ⟨b, o, none⟩) cn cm] 26 → OwnR 24 56 W.heap.size W5 (.slice la ll lc) (((vs.take k) ++ (vs.drop (k + 1))).map Cv.cl) →
          (∀ (i : Nat) (r : List Value) (j : Nat) (u : Value), (vs.map Cv.cl)[i]? = some r → r[j]? = some u → W5.cell? ⟨b, o + (i * 24 + j), none⟩ = some u) → (∀ (i : Nat) (x : Cl) (d : Cv), p.cls[i]? = some x → ClX K W5 x (vs[i]?.getD d)) → W.heap.size ≤ W5.heap.size → ∀ (x0 x1 x3 x8 x9 x10 x11 x12 x13 x14 x15 x16 x17 x18 x19 x20 x21 x22 x23 x24 x25 x26 x27 x28 x29 x30 x31 x32 x33 x34 x35 x36 x37 x38 x39 x40 x41 x42 x43 x44 x45 x46 x47 x48 x49 x50 x51 x52 x53 x54 x55 x56 x57 x58 x59 x60 x61 x62 x63 x64 x65 x66 x67 x68 x69 x70 x71 x72 x73 x74 x75 x76 x77 x78 x79 x80 x81 x82 x83 x84 x85 x86 x87 x88 x89 x90 x91 x92 x93 x94 x95 x96 x97 x98 x99 x100 x101 x102 x103 x104 x105 x106 x107 x108 x109 x110 x111 x112 x113 x114 x115 x116 x117 x118 x119 x120 x121 x122 x123 x124 : Value), K5 { tmps := #[x0, x1, .pointer (some ⟨w.heap.size, 0, none⟩), x3, .bool false, .int .i64 k, .pointer (some ⟨b6, 0, none⟩), .pointer (some ⟨b7, 0, none⟩), x8, x9, x10, x11, x12, x13, x14, x15, x16, x17, x18, x19, x20, x21, x22, x23, x24, x25, x26, x27, x28, x29, x30, x31, x32, x33, x34, x35, x36, x37, x38, x39, x40, x41, x42, x43, x44, x45, x46, x47, x48, x49, x50, x51, x52, x53, x54, x55, x56, x57, x58, x59, x60, x61, x62, x63, x64, x65, x66, x67, x68, x69, x70, x71, x72, x73, x74, x75, x76, x77, x78, x79, x80, x81, x82, x83, x84, x85, x86, x87, x88, x89, x90, x91, x92, x93, x94, x95, x96, x97, x98, x99, x100, x101, x102, x103, x104, x105, x106, x107, x108, x109, x110, x111, x112, x113, x114, x115, x116, x117, x118, x119, x120, x121, x122, x123, x124], defers := [] } W5 := by
        intro W5 la ll lc hx5 bW5 q6 q7 own6 hsrc5 hsxW s5 x0 x1 x3 x8 x9 x10 x11 x12 x13 x14 x15 x16 x17 x18 x19 x20 x21 x22 x23 x24 x25 x26 x27 x28 x29 x30 x31 x32 x33 x34 x35 x36 x37 x38 x39 x40 x41 x42 x43 x44 x45 x46 x47 x48 x49 x50 x51 x52 x53 x54 x55 x56 x57 x58 x59 x60 x61 x62 x63 x64 x65 x66 x67 x68 x69 x70 x71 x72 x73 x74 x75 x76 x77 x78 x79 x80 x81 x82 x83 x84 x85 x86 x87 x88 x89 x90 x91 x92 x93 x94 x95 x96 x97 x98 x99 x100 x101 x102 x103 x104 x105 x106 x107 x108 x109 x110 x111 x112 x113 x114 x115 x116 x117 x118 x119 x120 x121 x122 x123 x124
        have hb6W : b6 < W.heap.size := q60.lt
        have hb7W : b7 < W.heap.size := q70.lt
        have hbW5 : b < W5.heap.size := by omega
        refine hK5 _ _ ?_
        have hxW := hx5
        have own6L := own6
        have hsrcW : ∀ (i : Nat) (r : List Value) (j : Nat) (u : Value), (vs.map Cv.cl)[i]? = some r → r[j]? = some u → W5.cell? ⟨b, o + (i * 24 + j), none⟩ = some u := fun i r j u hi hj => hsrc5 i r j u hi hj
        obtain ⟨c, hcv⟩ : ∃ c, vs[k]? = some c := ⟨_, List.getElem?_eq_getElem (by omega)⟩
        have hrng : W5.rangeAt b (o + k * 24) c.cl := fun j u hj => by
          have := hsrcW k c.cl j u (by rw [List.getElem?_map, hcv]; rfl) hj
          rwa [← Nat.add_assoc] at this
        have hce : c.cl = [S c.nm, S c.lb, .int .i64 c.fr, .int .i64 c.to, .int .i64 c.kn, .bool c.off, .int .u8 c.wh.op, S c.wh.nm, .int .u8 c.wh.kd, .bool c.wh.b3, .slice c.wh.s4.a c.wh.s4.n c.wh.s4.m, .bool c.wh.b5, .slice c.wh.s6.a c.wh.s6.n c.wh.s6.m, .int .i64 c.wh.i7, .slice c.wh.s8.a c.wh.s8.n c.wh.s8.m, .int .u8 c.th.op, S c.th.nm, .int .u8 c.th.kd, .bool c.th.b3, .slice c.th.s4.a c.th.s4.n c.th.s4.m, .bool c.th.b5, .slice c.th.s6.a c.th.s6.n c.th.s6.m, .int .i64 c.th.i7, .slice c.th.s8.a c.th.s8.n c.th.s8.m] := rfl
        rw [hce] at hrng
        have hdr : Below W5.heap.size W5 W5.drew := (Below.refl _ W5).drew
        go_upto_region 6 with fail
        rename_i K6 hK6
        have key6 : ∀ (W6 : World) (ma : Option Addr) (ml mc : Nat), Cx K nm (.slice da dn dm) vt (.slice (some ⟨b, o, none⟩) cn cm) p w W6 → Blk W6 b6 #[.string nm, .slice da dn dm, vt, .slice la ll lc] 26 → Blk W6 b7 #[.string nm, .slice da dn dm, vt, .slice ma ml mc] 26 → PlanIs W6.heap.size W6 (.slice da dn dm) (.slice la ll lc) (lessP p k) → PlanIs W6.heap.size W6 (.slice da dn dm) (.slice ma ml mc) (moreP p k) → ∀ (x0 x1 x3 x8 x9 x10 x11 x12 x13 x14 x15 x16 x17 x18 x19 x20 x21 x22 x23 x24 x25 x26 x27 x28 x29 x30 x31 x32 x33 x34 x35 x36 x37 x38 x39 x40 x41 x42 x43 x44 x45 x46 x47 x48 x49 x50 x51 x52 x53 x54 x55 x56 x57 x58 x59 x60 x61 x62 x63 x64 x65 x66 x67 x68 x69 x70 x71 x72 x73 x74 x75 x76 x77 x78 x79 x80 x81 x82 x83 x84 x85 x86 x87 x88 x89 x90 x91 x92 x93 x94 x95 x96 x97 x98 x99 x100 x101 x102 x103 x104 x105 x106 x107 x108 x109 x110 x111 x112 x113 x114 x115 x116 x117 x118 x119 x120 x121 x122 x123 x124 : Value), K6 { tmps := #[x0, x1, .pointer (some ⟨w.heap.size, 0, none⟩), x3, .bool false, .int .i64 k, .pointer (some ⟨b6, 0, none⟩), .pointer (some ⟨b7, 0, none⟩), x8, x9, x10, x11, x12, x13, x14, x15, x16, x17, x18, x19, x20, x21, x22, x23, x24, x25, x26, x27, x28, x29, x30, x31, x32, x33, x34, x35, x36, x37, x38, x39, x40, x41, x42, x43, x44, x45, x46, x47, x48, x49, x50, x51, x52, x53, x54, x55, x56, x57, x58, x59, x60, x61, x62, x63, x64, x65, x66, x67, x68, x69, x70, x71, x72, x73, x74, x75, x76, x77, x78, x79, x80, x81, x82, x83, x84, x85, x86, x87, x88, x89, x90, x91, x92, x93, x94, x95, x96, x97, x98, x99, x100, x101, x102, x103, x104, x105, x106, x107, x108, x109, x110, x111, x112, x113, x114, x115, x116, x117, x118, x119, x120, x121, x122, x123, x124], defers := [] } W6 := by
          intro W6 ma ml mc hx6 q6 q7 hPl hPm x0 x1 x3 x8 x9 x10 x11 x12 x13 x14 x15 x16 x17 x18 x19 x20 x21 x22 x23 x24 x25 x26 x27 x28 x29 x30 x31 x32 x33 x34 x35 x36 x37 x38 x39 x40 x41 x42 x43 x44 x45 x46 x47 x48 x49 x50 x51 x52 x53 x54 x55 x56 x57 x58 x59 x60 x61 x62 x63 x64 x65 x66 x67 x68 x69 x70 x71 x72 x73 x74 x75 x76 x77 x78 x79 x80 x81 x82 x83 x84 x85 x86 x87 x88 x89 x90 x91 x92 x93 x94 x95 x96 x97 x98 x99 x100 x101 x102 x103 x104 x105 x106 x107 x108 x109 x110 x111 x112 x113 x114 x115 x116 x117 x118 x119 x120 x121 x122 x123 x124
          refine hK6 _ _ ?_
          have hL : Lx K nm (.slice da dn dm) vt (.slice (some ⟨b, o, none⟩) cn cm) (.slice la ll lc) (.slice ma ml mc) p k w b6 b7 W6 := ⟨hx6, q6, q7, hPl, hPm⟩
          have HMO := Lib.hid (more_order p k)
          have hszl := less_size (k := k) HFB.out
          have hszm := more_size (k := k) HFB.out
          have hEF : (orderE p = 0 ∧ orderE (lessP p k) = 0) ∨ orderE p = 150 := by
            cases hob : ordB p with
            | true => exact .inl ⟨orderE_of hob, less_order hob⟩
            | false => exact .inr (orderE_no hob)
          clear hx5 own6 hsrc5 hsxW hsrc hsx hx hxW q60 q70 bW5 hC hx6 q6 q7 hPl hPm bW
          obtain ⟨d0, d1, d2, d3⟩ := hL.cx.box.four
          have hc := order_any K p nm _ vt _ W6 hL.cx.plan hL.cx.big hsz
          go_wp2_with fail
          refine hc.mono ?_
          rintro e w7 ⟨y7, rfl, hl7, b7'⟩
          obtain ⟨oa, oc, rfl, ho1, ho2⟩ := hl7.form
          replace hL := hL.below b7'
          replace hl7 := hl7.strs
          obtain ⟨e0, e1, e2, e3⟩ := hL.l.four
          have hc2 := order_any w7.heap.size (lessP p k) nm _ vt _ w7 hL.pl (Nat.le_refl _) hszl
          clear hc b7' d0 d1 d2 d3
          go_wp2_with fail
          refine hc2.mono ?_
          rintro e w8 ⟨y8, rfl, hl8, b8'⟩
          obtain ⟨ia, ic, rfl, _, _⟩ := hl8.form
          replace hL := hL.below b8'
          replace hl7 := hl7.self b8'
          obtain ⟨f0, f1, f2, f3⟩ := hL.m.four
          have hc3 := order_any w8.heap.size (moreP p k) nm _ vt _ w8 hL.pm (Nat.le_refl _) hszm
          rw [HMO.out.1, HMO.out.2.1] at hc3
          clear hc2 b8' e0 e1 e2 e3 hl8
          go_wp2_with fail
          refine hc3.mono ?_
          rintro e w9 ⟨y9, rfl, hl9, b9'⟩
          obtain ⟨ga, gc, rfl, hg1, hg2⟩ := hl9.form
          replace hL := hL.below b9'
          replace hl7 := hl7.self b9'
          replace hl9 := hl9.strs
          clear hc3 b9' f0 f1 f2 f3
          go_upto_region 10 with fail
          rename_i K10 hK10
          have key10 : ∀ (t4 : World), Lx K nm (.slice da dn dm) vt (.slice (some ⟨b, o, none⟩) cn cm) (.slice la ll lc) (.slice ma ml mc) p k w b6 b7 t4 → ∀ (x0 x1 x3 x4 x5 x7 x8 x9 x10 x11 x12 x13 x14 x15 x16 x17 x18 x19 x20 x21 x22 x23 x24 x25 x26 x27 x28 x29 x30 x31 x32 x33 x34 x35 x36 x37 x38 x39 x40 x41 x42 x43 x44 x45 x46 x47 x48 x49 x50 x51 x52 x53 x54 x55 x56 x57 x58 x59 x60 x61 x62 x63 x64 x65 x66 x67 x68 x69 x70 x71 x72 x73 x74 x75 x76 x77 x78 x79 x80 x81 x82 x83 x84 x85 x86 x87 x88 x89 x90 x91 x92 x93 x94 x95 x96 x97 x98 x100 x101 x102 x103 x104 x105 x106 x107 x108 x109 x110 x111 x112 x113 x114 x115 x116 x117 x118 x119 x120 x121 x122 x123 x124 : Value), K10 { tmps := #[x0, x1, .pointer (some ⟨w.heap.size, 0, none⟩), x3, x4, x5, .pointer (some ⟨b6, 0, none⟩), x7, x8, x9, x10, x11, x12, x13, x14, x15, x16, x17, x18, x19, x20, x21, x22, x23, x24, x25, x26, x27, x28, x29, x30, x31, x32, x33, x34, x35, x36, x37, x38, x39, x40, x41, x42, x43, x44, x45, x46, x47, x48, x49, x50, x51, x52, x53, x54, x55, x56, x57, x58, x59, x60, x61, x62, x63, x64, x65, x66, x67, x68, x69, x70, x71, x72, x73, x74, x75, x76, x77, x78, x79, x80, x81, x82, x83, x84, x85, x86, x87, x88, x89, x90, x91, x92, x93, x94, x95, x96, x97, x98, .bool false, x100, x101, x102, x103, x104, x105, x106, x107, x108, x109, x110, x111, x112, x113, x114, x115, x116, x117, x118, x119, x120, x121, x122, x123, x124], defers := [] } t4 := by
            intro t4 hL x0 x1 x3 x4 x5 x7 x8 x9 x10 x11 x12 x13 x14 x15 x16 x17 x18 x19 x20 x21 x22 x23 x24 x25 x26 x27 x28 x29 x30 x31 x32 x33 x34 x35 x36 x37 x38 x39 x40 x41 x42 x43 x44 x45 x46 x47 x48 x49 x50 x51 x52 x53 x54 x55 x56 x57 x58 x59 x60 x61 x62 x63 x64 x65 x66 x67 x68 x69 x70 x71 x72 x73 x74 x75 x76 x77 x78 x79 x80 x81 x82 x83 x84 x85 x86 x87 x88 x89 x90 x91 x92 x93 x94 x95 x96 x97 x98 x100 x101 x102 x103 x104 x105 x106 x107 x108 x109 x110 x111 x112 x113 x114 x115 x116 x117 x118 x119 x120 x121 x122 x123 x124
            refine hK10 _ _ ?_
            clear hl7 hl9 hEF
            obtain ⟨d0, d1, d2, d3⟩ := hL.cx.box.four
            have hc := names_any K p nm _ vt (.slice (some ⟨b, o, none⟩) cn cm) t4 hL.cx.plan.1 hL.cx.big (by omega)
            go_wp2_with fail
            refine hc.mono ?_
            rintro e t5 ⟨y5, rfl, hn5, b5⟩
            obtain ⟨na, nc, rfl, hn1, hn2⟩ := hn5.form
            replace hL := hL.below b5
            have hns := hn5.strs
            obtain ⟨ns, hnsE⟩ : ∃ ns, names p = ns := ⟨_, rfl⟩
            rw [hnsE] at hns hn1 hnl ⊢
            unfold maxLen at hn2
            obtain ⟨N0, hN0⟩ : ∃ N0, t5.heap.size = N0 := ⟨_, rfl⟩
            rw [hN0] at hns
            have hN5 : N0 ≤ t5.heap.size := by omega
            clear hc b5 hn5 d0 d1 d2 d3 hnsE hN0
            go_wp2_with fail
            go_loopw [103] (fun i wr => ∃ (j : Nat), j ≤ ns.length ∧ i = .int .i64 j ∧ Lx K nm (.slice da dn dm) vt (.slice (some ⟨b, o, none⟩) cn cm) (.slice la ll lc) (.slice ma ml mc) p k w b6 b7 wr ∧ Strs N0 wr (.slice na ns.length nc) ns ∧ N0 ≤ wr.heap.size) (fun i _ => ns.length - (intOf i).toNat)
            case atStart => exact ⟨0, Nat.zero_le _, rfl, hL, hns, hN5⟩
            case round =>
              obtain ⟨j, hj, rfl, hL, hns, hN⟩ := hrel
              by_cases hlt : j < ns.length
              · obtain ⟨bb, oo, cap, he, _, _, hbN, hc⟩ := hns.pos (by omega)
                simp only [Value.slice.injEq, true_and] at he
                obtain ⟨rfl, rfl⟩ := he
                have c0 := hc j hlt
                have hsl : (ns[j]?.getD []).length ≤ maxLen := hns.len
                obtain ⟨s, hs⟩ : ∃ s, ns[j]?.getD [] = s := ⟨_, rfl⟩
                rw [hs] at c0 hsl
                obtain ⟨d0, d1, d2, d3⟩ := hL.cx.box.four
                have hre := reach_any K p nm _ vt _ s wr hL.cx.plan hL.cx.big hsz hsl
                have HR : Hid (∀ d ∈ reach (lessP p k) s, ∃ q : Nat, idxI (reach p s) d = q) := Lib.hid fun d hd => less_reach hd
                clear hc hs
                go_wp2_with fail
                refine hre.mono ?_
                rintro e t6 ⟨y6, rfl, hr6, b6'⟩
                obtain ⟨ra, rc, rfl, hr1, hr2⟩ := hr6.form
                have hL6 := hL.below b6'
                have hns6 := hns.below b6' hN (Nat.le_refl _)
                have hrs := hr6.strs
                have sz6 : wr.heap.size ≤ t6.heap.size := b6'.size
                obtain ⟨e0, e1, e2, e3⟩ := hL6.l.four
                have hre2 := reach_any t6.heap.size (lessP p k) nm _ vt _ s t6 hL6.pl (Nat.le_refl _) hszl hsl
                clear hre hr6 b6' hL hns d0 d1 d2 d3 c0
                go_wp2_with fail
                refine hre2.mono ?_
                rintro e t7 ⟨y7, rfl, hr7, b7'⟩
                obtain ⟨fa, fc, rfl, hf1, hf2⟩ := hr7.form
                have hL7 := hL6.below b7'
                have hns7 := hns6.below b7' (by omega) (Nat.le_refl _)
                have hrs7 := hrs.self b7'
                have hfs := hr7.strs
                have sz7 : t6.heap.size ≤ t7.heap.size := b7'.size
                obtain ⟨rl, hrl⟩ : ∃ rl, reach p s = rl := ⟨_, rfl⟩
                obtain ⟨fl, hfl⟩ : ∃ fl, reach (lessP p k) s = fl := ⟨_, rfl⟩
                rw [hrl] at hrs7 hr1 HR ⊢
                rw [hfl] at hfs hf1 HR ⊢
                unfold maxLen at hr2 hf2
                clear hre2 hr7 b7' hL6 hns6 hrs e0 e1 e2 e3 hrl hfl
                go_wp2_with fail
                go_loopw [114] (fun i w8 => t7 = w8 ∧ ∃ (m : Nat), m ≤ fl.length ∧ i = .int .i64 m) (fun i _ => fl.length - (intOf i).toNat)
                case atStart => exact ⟨rfl, 0, Nat.zero_le _, rfl⟩
                case round =>
                  obtain ⟨rfl, m, hm, rfl⟩ := hrel
                  by_cases hml : m < fl.length
                  · obtain ⟨b2, o2, cap2, he, _, _, _, hc2⟩ := hfs.pos (by omega)
                    simp only [Value.slice.injEq, true_and] at he
                    obtain ⟨rfl, rfl⟩ := he
                    have c2 := hc2 m hml
                    have hdl2 : (fl[m]?.getD []).length ≤ maxLen := hfs.len
                    have hi2 := lindex_any t7.heap.size _ rl (fl[m]?.getD []) t7 hrs7 hdl2
                    obtain ⟨q2, hI2⟩ := HR.out (fl[m]?.getD []) (by rw [List.getElem?_eq_getElem hml]; exact List.getElem_mem hml)
                    rw [hI2] at hi2
                    obtain ⟨d, hd⟩ : ∃ d, fl[m]?.getD [] = d := ⟨_, rfl⟩
                    rw [hd] at c2 hdl2 hi2
                    have hz1 : ¬ ((q2 : Int) < 0) := by omega
                    clear hc2 hI2 hd
                    go_wp2_with fail
                    refine hi2.mono ?_
                    rintro e w8 ⟨rfl, rfl⟩
                    clear hi2 c2
                    go_wp2_with fail
                    exact ⟨⟨by first | trivial | rfl, m + 1, by omega, by go_num⟩, by simp [intOf]; omega⟩
                  · obtain rfl : m = fl.length := by omega
                    go_wp2_with fail
                    exact ⟨⟨j + 1, by omega, by go_num, hL7, hns7, by omega⟩, by simp [intOf]; omega⟩
              · obtain rfl : j = ns.length := by omega
                go_wp2_with fail
                refine (awake_any wr).mono ?_
                rintro e w7 ⟨rfl, b7'⟩
                go_wp2_with fail
                go_ret
                exact ⟨rfl, (hL.cx.below b7').bel⟩
          rcases hEF with ⟨hE, hF⟩ | hE
          · rw [hE, hF]
            clear hE hF
            refine wp_onlyN ?_
            refine region_plain (fun W => Blk W w.heap.size #[.string nm, .slice da dn dm, vt, .slice (some ⟨b, o, none⟩) cn cm] 26 ∧ Blk W b7 #[.string nm, .slice da dn dm, vt, .slice ma ml mc] 26) [] (by kernel_rfl) ?_
            have qS : (fun W => Blk W w.heap.size #[.string nm, .slice da dn dm, vt, .slice (some ⟨b, o, none⟩) cn cm] 26 ∧ Blk W b7 #[.string nm, .slice da dn dm, vt, .slice ma ml mc] 26) w9.drew := ⟨hL.cx.box, hL.m⟩
            refine wpAnyD_take (i := 0) (v := .int .i64 0) rfl (by kernel_rfl) (by kernel_rfl) (by kernel_rfl) (by kernel_rfl) (by kernel_rfl) (fun _ _ _ h => h) (.inl ⟨by kernel_rfl, fun W' hS => by go_simp⟩) qS ?_
            refine wpAnyD_take (i := 1) (v := .bool true) rfl (by kernel_rfl) (by kernel_rfl) (by kernel_rfl) (by kernel_rfl) (by kernel_rfl) (fun _ _ _ h => h) (.inl ⟨by kernel_rfl, fun W' hS => by go_simp⟩) qS ?_
            refine wpAnyD_take (i := 2) (v := .bool true) rfl (by kernel_rfl) (by kernel_rfl) (by kernel_rfl) (by kernel_rfl) (by kernel_rfl) (fun _ _ _ h => h) (.inl ⟨by kernel_rfl, fun W' hS => by go_simp⟩) qS ?_
            refine wpAnyD_take (i := 3) (v := .int .i64 0) rfl (by kernel_rfl) (by kernel_rfl) (by kernel_rfl) (by kernel_rfl) (by kernel_rfl) (fun _ _ _ h => h) (.inl ⟨by kernel_rfl, fun W' hS => by go_simp⟩) qS ?_
            refine wpAnyD_take (i := 4) (v := .bool false) rfl (by kernel_rfl) (by kernel_rfl) (by kernel_rfl) (by kernel_rfl) (by kernel_rfl) (fun _ _ _ h => h) (.inl ⟨by kernel_rfl, fun W' hS => by go_simp⟩) qS ?_
            refine wpAnyD_take (i := 5) (v := .bool false) rfl (by kernel_rfl) (by kernel_rfl) (by kernel_rfl) (by kernel_rfl) (by kernel_rfl) (fun _ _ _ h => h) (.inl ⟨by kernel_rfl, fun W' hS => by go_simp⟩) qS ?_
            refine wpAnyD_take (i := 6) (v := .bool false) rfl (by kernel_rfl) (by kernel_rfl) (by kernel_rfl) (by kernel_rfl) (by kernel_rfl) (fun _ _ _ h => h) (.inl ⟨by kernel_rfl, fun W' hS => by go_simp⟩) qS ?_
            refine wpAnyD_take (i := 7) (v := .int .i64 0) rfl (by kernel_rfl) (by kernel_rfl) (by kernel_rfl) (by kernel_rfl) (by kernel_rfl) (fun _ _ _ h => h) (.inl ⟨by kernel_rfl, fun W' hS => by go_simp⟩) qS ?_
            refine wpAnyD_take (i := 8) (v := .int .i64 0) rfl (by kernel_rfl) (by kernel_rfl) (by kernel_rfl) (by kernel_rfl) (by kernel_rfl) (fun _ _ _ h => h) (.inl ⟨by kernel_rfl, fun W' hS => by go_simp⟩) qS ?_
            refine wpAnyD_take (i := 9) (v := .bool false) rfl (by kernel_rfl) (by kernel_rfl) (by kernel_rfl) (by kernel_rfl) (by kernel_rfl) (fun _ _ _ h => h) (.inl ⟨by kernel_rfl, fun W' hS => by go_simp⟩) qS ?_
            refine wpAnyD_take (i := 10) (v := .bool false) rfl (by kernel_rfl) (by kernel_rfl) (by kernel_rfl) (by kernel_rfl) (by kernel_rfl) (fun _ _ _ h => h) (.inl ⟨by kernel_rfl, fun W' hS => by go_simp⟩) qS ?_
            refine wpAnyD_take (i := 11) (v := .bool false) rfl (by kernel_rfl) (by kernel_rfl) (by kernel_rfl) (by kernel_rfl) (by kernel_rfl) (fun _ _ _ h => h) (.inl ⟨by kernel_rfl, fun W' hS => by go_simp⟩) qS ?_
            refine wpAnyD_take (i := 12) (v := .slice oa (orderL p).length oc) rfl (by kernel_rfl) (by kernel_rfl) (by kernel_rfl) (by kernel_rfl) (by kernel_rfl) (fun _ _ _ h => h) (.inl ⟨by kernel_rfl, fun W' hS => by go_simp⟩) qS ?_
            refine wpAnyD_take (i := 13) (v := .slice ga (orderL p).length gc) rfl (by kernel_rfl) (by kernel_rfl) (by kernel_rfl) (by kernel_rfl) (by kernel_rfl) (fun _ _ _ h => h) (.inl ⟨by kernel_rfl, fun W' hS => by go_simp⟩) qS ?_
            have hL9 := hL.below (W' := w9.drew) (Below.refl _ w9).drew
            have hsm := same_yes w9.heap.size (.slice oa (orderL p).length oc) (.slice ga (orderL p).length gc) (orderL p) w9.drew hl7 hl9
            refine wpAnyD_one (i := 14) (by kernel_rfl) rfl (by kernel_rfl) ?_
            go_frame
            go_simp
            refine hsm.mono ?_
            rintro e t1 ⟨rfl, b1⟩
            have hL1 := hL9.below b1
            have qS : (fun W => Blk W w.heap.size #[.string nm, .slice da dn dm, vt, .slice (some ⟨b, o, none⟩) cn cm] 26 ∧ Blk W b7 #[.string nm, .slice da dn dm, vt, .slice ma ml mc] 26) t1 := ⟨hL1.cx.box, hL1.m⟩
            go_simp
            try refine ⟨qS, ?_⟩
            refine wpAnyD_take (i := 15) (v := .bool false) rfl (by kernel_rfl) (by kernel_rfl) (by kernel_rfl) (by kernel_rfl) (by kernel_rfl) (fun _ _ _ h => h) (.inl ⟨by kernel_rfl, fun W' hS => by go_simp⟩) qS ?_
            refine wpAnyD_take (i := 16) (v := .bool false) rfl (by kernel_rfl) (by kernel_rfl) (by kernel_rfl) (by kernel_rfl) (by kernel_rfl) (fun _ _ _ h => h) (.inl ⟨by kernel_rfl, fun W' hS => by go_simp⟩) qS ?_
            refine wpAnyD_take (i := 17) (v := .bool false) rfl (by kernel_rfl) (by kernel_rfl) (by kernel_rfl) (by kernel_rfl) (by kernel_rfl) (fun _ _ _ h => h) (.inl ⟨by kernel_rfl, fun W' hS => by go_simp⟩) qS ?_
            refine wpAnyD_take (i := 18) (v := .agg #[.string nm, .slice da dn dm, vt, .slice (some ⟨b, o, none⟩) cn cm]) rfl (by kernel_rfl) (by kernel_rfl) (by kernel_rfl) (by kernel_rfl) (by kernel_rfl) (fun _ _ _ h => h) (.inl ⟨by kernel_rfl, fun W' hS => by obtain ⟨c0, c1, c2, c3⟩ := Blk.four hS.1; go_simp⟩) qS ?_
            refine wpAnyD_take (i := 20) (v := .agg #[.string nm, .slice da dn dm, vt, .slice ma ml mc]) rfl (by kernel_rfl) (by kernel_rfl) (by kernel_rfl) (by kernel_rfl) (by kernel_rfl) (fun _ _ _ h => h) (.inl ⟨by kernel_rfl, fun W' hS => by obtain ⟨c0, c1, c2, c3⟩ := Blk.four hS.2; go_simp⟩) qS ?_
            have hcy := cycle_any K p nm _ vt _ t1 hL1.cx.plan hL1.cx.big hsz
            refine wpAnyD_one (i := 19) (by kernel_rfl) rfl (by kernel_rfl) ?_
            go_simp
            refine hcy.mono ?_
            rintro e t2 ⟨y2, rfl, hy2, b2⟩
            have hL2 := hL1.below b2
            have hs2 := hy2.strs
            have qS : (fun W => Blk W w.heap.size #[.string nm, .slice da dn dm, vt, .slice (some ⟨b, o, none⟩) cn cm] 26 ∧ Blk W b7 #[.string nm, .slice da dn dm, vt, .slice ma ml mc] 26) t2 := ⟨hL2.cx.box, hL2.m⟩
            obtain ⟨ya, yc, rfl, _, _⟩ := hy2.form
            have hcy2 := cycle_any t2.heap.size (moreP p k) nm _ vt _ t2 hL2.pm (Nat.le_refl _) hszm
            rw [HMO.out.2.2] at hcy2
            go_simp
            try refine ⟨qS, ?_⟩
            refine wpAnyD_one (i := 21) (by kernel_rfl) rfl (by kernel_rfl) ?_
            go_simp
            refine hcy2.mono ?_
            rintro e t3 ⟨y3, rfl, hy3, b3⟩
            have hL3 := hL2.below b3
            have hs3 := hy3.strs
            have qS : (fun W => Blk W w.heap.size #[.string nm, .slice da dn dm, vt, .slice (some ⟨b, o, none⟩) cn cm] 26 ∧ Blk W b7 #[.string nm, .slice da dn dm, vt, .slice ma ml mc] 26) t3 := ⟨hL3.cx.box, hL3.m⟩
            obtain ⟨za, zc, rfl, _, _⟩ := hy3.form
            have hsm2 := same_yes t3.heap.size (.slice ya (cycle p).length yc) (.slice za (cycle p).length zc) (cycle p) t3 (hs2.self b3) hs3
            go_simp
            try refine ⟨qS, ?_⟩
            refine wpAnyD_one (i := 22) (by kernel_rfl) rfl (by kernel_rfl) ?_
            go_simp
            refine hsm2.mono ?_
            rintro e t4 ⟨rfl, b4⟩
            have hL := hL3.below b4
            have qS : (fun W => Blk W w.heap.size #[.string nm, .slice da dn dm, vt, .slice (some ⟨b, o, none⟩) cn cm] 26 ∧ Blk W b7 #[.string nm, .slice da dn dm, vt, .slice ma ml mc] 26) t4 := ⟨hL.cx.box, hL.m⟩
            go_simp
            try refine ⟨qS, ?_⟩
            refine wpAnyD_take (i := 23) (v := .bool false) rfl (by kernel_rfl) (by kernel_rfl) (by kernel_rfl) (by kernel_rfl) (by kernel_rfl) (fun _ _ _ h => h) (.inl ⟨by kernel_rfl, fun W' hS => by go_simp⟩) qS ?_
            refine wpAnyD_take (i := 24) (v := .bool false) rfl (by kernel_rfl) (by kernel_rfl) (by kernel_rfl) (by kernel_rfl) (by kernel_rfl) (fun _ _ _ h => h) (.inl ⟨by kernel_rfl, fun W' hS => by go_simp⟩) qS ?_
            clear qS hL1 hL2 hL3 hL9 hsm hsm2 hcy hcy2 hs2 hs3 hy2 hy3 b1 b2 b3 b4 hl7 hl9
            refine wpAnyD_done (by kernel_rfl) ?_ _
            refine onlyN_mk ?_
            go_simp
            exact key10 _ hL _ _ _ _ _ _ _ _ _ _ _ _ _ _ _ _ _ _ _ _ _ _ _ _ _ _ _ _ _ _ _ _ _ _ _ _ _ _ _ _ _ _ _ _ _ _ _ _ _ _ _ _ _ _ _ _ _ _ _ _ _ _ _ _ _ _ _ _ _ _ _ _ _ _ _ _ _ _ _ _ _ _ _ _ _ _ _ _ _ _ _ _ _ _ _ _ _ _ _ _ _ _ _ _ _ _ _ _ _ _ _ _ _ _ _ _ _ _ _ _ _ _ 
          · rw [hE]
            clear hE
            refine wp_onlyN ?_
            refine region_plain (fun W => Blk W w.heap.size #[.string nm, .slice da dn dm, vt, .slice (some ⟨b, o, none⟩) cn cm] 26 ∧ Blk W b7 #[.string nm, .slice da dn dm, vt, .slice ma ml mc] 26) [] (by kernel_rfl) ?_
            have qS : (fun W => Blk W w.heap.size #[.string nm, .slice da dn dm, vt, .slice (some ⟨b, o, none⟩) cn cm] 26 ∧ Blk W b7 #[.string nm, .slice da dn dm, vt, .slice ma ml mc] 26) w9.drew := ⟨hL.cx.box, hL.m⟩
            refine wpAnyD_take (i := 0) (v := .int .i64 150) rfl (by kernel_rfl) (by kernel_rfl) (by kernel_rfl) (by kernel_rfl) (by kernel_rfl) (fun _ _ _ h => h) (.inl ⟨by kernel_rfl, fun W' hS => by go_simp⟩) qS ?_
            refine wpAnyD_take (i := 1) (v := .bool false) rfl (by kernel_rfl) (by kernel_rfl) (by kernel_rfl) (by kernel_rfl) (by kernel_rfl) (fun _ _ _ h => h) (.inl ⟨by kernel_rfl, fun W' hS => by go_simp⟩) qS ?_
            refine wpAnyD_take (i := 2) (v := .bool false) rfl (by kernel_rfl) (by kernel_rfl) (by kernel_rfl) (by kernel_rfl) (by kernel_rfl) (fun _ _ _ h => h) (.inl ⟨by kernel_rfl, fun W' hS => by go_simp⟩) qS ?_
            refine wpAnyD_take (i := 3) (v := undef) rfl (by kernel_rfl) (by kernel_rfl) (by kernel_rfl) (by kernel_rfl) (by kernel_rfl) (fun _ _ _ h => h) (.inr ⟨by kernel_rfl, rfl⟩) qS ?_
            refine wpAnyD_take (i := 4) (v := undef) rfl (by kernel_rfl) (by kernel_rfl) (by kernel_rfl) (by kernel_rfl) (by kernel_rfl) (fun _ _ _ h => h) (.inr ⟨by kernel_rfl, rfl⟩) qS ?_
            refine wpAnyD_take (i := 5) (v := .bool false) rfl (by kernel_rfl) (by kernel_rfl) (by kernel_rfl) (by kernel_rfl) (by kernel_rfl) (fun _ _ _ h => h) (.inl ⟨by kernel_rfl, fun W' hS => by go_simp⟩) qS ?_
            refine wpAnyD_take (i := 6) (v := .bool false) rfl (by kernel_rfl) (by kernel_rfl) (by kernel_rfl) (by kernel_rfl) (by kernel_rfl) (fun _ _ _ h => h) (.inl ⟨by kernel_rfl, fun W' hS => by go_simp⟩) qS ?_
            refine wpAnyD_take (i := 7) (v := .int .i64 150) rfl (by kernel_rfl) (by kernel_rfl) (by kernel_rfl) (by kernel_rfl) (by kernel_rfl) (fun _ _ _ h => h) (.inl ⟨by kernel_rfl, fun W' hS => by go_simp⟩) qS ?_
            refine wpAnyD_take (i := 8) (v := .int .i64 150) rfl (by kernel_rfl) (by kernel_rfl) (by kernel_rfl) (by kernel_rfl) (by kernel_rfl) (fun _ _ _ h => h) (.inl ⟨by kernel_rfl, fun W' hS => by go_simp⟩) qS ?_
            refine wpAnyD_take (i := 9) (v := .bool false) rfl (by kernel_rfl) (by kernel_rfl) (by kernel_rfl) (by kernel_rfl) (by kernel_rfl) (fun _ _ _ h => h) (.inl ⟨by kernel_rfl, fun W' hS => by go_simp⟩) qS ?_
            refine wpAnyD_take (i := 10) (v := .bool false) rfl (by kernel_rfl) (by kernel_rfl) (by kernel_rfl) (by kernel_rfl) (by kernel_rfl) (fun _ _ _ h => h) (.inl ⟨by kernel_rfl, fun W' hS => by go_simp⟩) qS ?_
            refine wpAnyD_take (i := 11) (v := .bool false) rfl (by kernel_rfl) (by kernel_rfl) (by kernel_rfl) (by kernel_rfl) (by kernel_rfl) (fun _ _ _ h => h) (.inl ⟨by kernel_rfl, fun W' hS => by go_simp⟩) qS ?_
            refine wpAnyD_take (i := 12) (v := .slice oa (orderL p).length oc) rfl (by kernel_rfl) (by kernel_rfl) (by kernel_rfl) (by kernel_rfl) (by kernel_rfl) (fun _ _ _ h => h) (.inl ⟨by kernel_rfl, fun W' hS => by go_simp⟩) qS ?_
            refine wpAnyD_take (i := 13) (v := .slice ga (orderL p).length gc) rfl (by kernel_rfl) (by kernel_rfl) (by kernel_rfl) (by kernel_rfl) (by kernel_rfl) (fun _ _ _ h => h) (.inl ⟨by kernel_rfl, fun W' hS => by go_simp⟩) qS ?_
            have hL9 := hL.below (W' := w9.drew) (Below.refl _ w9).drew
            have hsm := same_yes w9.heap.size (.slice oa (orderL p).length oc) (.slice ga (orderL p).length gc) (orderL p) w9.drew hl7 hl9
            refine wpAnyD_one (i := 14) (by kernel_rfl) rfl (by kernel_rfl) ?_
            go_frame
            go_simp
            refine hsm.mono ?_
            rintro e t1 ⟨rfl, b1⟩
            have hL1 := hL9.below b1
            have qS : (fun W => Blk W w.heap.size #[.string nm, .slice da dn dm, vt, .slice (some ⟨b, o, none⟩) cn cm] 26 ∧ Blk W b7 #[.string nm, .slice da dn dm, vt, .slice ma ml mc] 26) t1 := ⟨hL1.cx.box, hL1.m⟩
            go_simp
            try refine ⟨qS, ?_⟩
            refine wpAnyD_take (i := 15) (v := .bool false) rfl (by kernel_rfl) (by kernel_rfl) (by kernel_rfl) (by kernel_rfl) (by kernel_rfl) (fun _ _ _ h => h) (.inl ⟨by kernel_rfl, fun W' hS => by go_simp⟩) qS ?_
            refine wpAnyD_take (i := 16) (v := .bool false) rfl (by kernel_rfl) (by kernel_rfl) (by kernel_rfl) (by kernel_rfl) (by kernel_rfl) (fun _ _ _ h => h) (.inl ⟨by kernel_rfl, fun W' hS => by go_simp⟩) qS ?_
            refine wpAnyD_take (i := 17) (v := .bool false) rfl (by kernel_rfl) (by kernel_rfl) (by kernel_rfl) (by kernel_rfl) (by kernel_rfl) (fun _ _ _ h => h) (.inl ⟨by kernel_rfl, fun W' hS => by go_simp⟩) qS ?_
            refine wpAnyD_take (i := 18) (v := .agg #[.string nm, .slice da dn dm, vt, .slice (some ⟨b, o, none⟩) cn cm]) rfl (by kernel_rfl) (by kernel_rfl) (by kernel_rfl) (by kernel_rfl) (by kernel_rfl) (fun _ _ _ h => h) (.inl ⟨by kernel_rfl, fun W' hS => by obtain ⟨c0, c1, c2, c3⟩ := Blk.four hS.1; go_simp⟩) qS ?_
            refine wpAnyD_take (i := 20) (v := .agg #[.string nm, .slice da dn dm, vt, .slice ma ml mc]) rfl (by kernel_rfl) (by kernel_rfl) (by kernel_rfl) (by kernel_rfl) (by kernel_rfl) (fun _ _ _ h => h) (.inl ⟨by kernel_rfl, fun W' hS => by obtain ⟨c0, c1, c2, c3⟩ := Blk.four hS.2; go_simp⟩) qS ?_
            have hcy := cycle_any K p nm _ vt _ t1 hL1.cx.plan hL1.cx.big hsz
            refine wpAnyD_one (i := 19) (by kernel_rfl) rfl (by kernel_rfl) ?_
            go_simp
            refine hcy.mono ?_
            rintro e t2 ⟨y2, rfl, hy2, b2⟩
            have hL2 := hL1.below b2
            have hs2 := hy2.strs
            have qS : (fun W => Blk W w.heap.size #[.string nm, .slice da dn dm, vt, .slice (some ⟨b, o, none⟩) cn cm] 26 ∧ Blk W b7 #[.string nm, .slice da dn dm, vt, .slice ma ml mc] 26) t2 := ⟨hL2.cx.box, hL2.m⟩
            obtain ⟨ya, yc, rfl, _, _⟩ := hy2.form
            have hcy2 := cycle_any t2.heap.size (moreP p k) nm _ vt _ t2 hL2.pm (Nat.le_refl _) hszm
            rw [HMO.out.2.2] at hcy2
            go_simp
            try refine ⟨qS, ?_⟩
            refine wpAnyD_one (i := 21) (by kernel_rfl) rfl (by kernel_rfl) ?_
            go_simp
            refine hcy2.mono ?_
            rintro e t3 ⟨y3, rfl, hy3, b3⟩
            have hL3 := hL2.below b3
            have hs3 := hy3.strs
            have qS : (fun W => Blk W w.heap.size #[.string nm, .slice da dn dm, vt, .slice (some ⟨b, o, none⟩) cn cm] 26 ∧ Blk W b7 #[.string nm, .slice da dn dm, vt, .slice ma ml mc] 26) t3 := ⟨hL3.cx.box, hL3.m⟩
            obtain ⟨za, zc, rfl, _, _⟩ := hy3.form
            have hsm2 := same_yes t3.heap.size (.slice ya (cycle p).length yc) (.slice za (cycle p).length zc) (cycle p) t3 (hs2.self b3) hs3
            go_simp
            try refine ⟨qS, ?_⟩
            refine wpAnyD_one (i := 22) (by kernel_rfl) rfl (by kernel_rfl) ?_
            go_simp
            refine hsm2.mono ?_
            rintro e t4 ⟨rfl, b4⟩
            have hL := hL3.below b4
            have qS : (fun W => Blk W w.heap.size #[.string nm, .slice da dn dm, vt, .slice (some ⟨b, o, none⟩) cn cm] 26 ∧ Blk W b7 #[.string nm, .slice da dn dm, vt, .slice ma ml mc] 26) t4 := ⟨hL.cx.box, hL.m⟩
            go_simp
            try refine ⟨qS, ?_⟩
            refine wpAnyD_take (i := 23) (v := .bool false) rfl (by kernel_rfl) (by kernel_rfl) (by kernel_rfl) (by kernel_rfl) (by kernel_rfl) (fun _ _ _ h => h) (.inl ⟨by kernel_rfl, fun W' hS => by go_simp⟩) qS ?_
            refine wpAnyD_take (i := 24) (v := .bool false) rfl (by kernel_rfl) (by kernel_rfl) (by kernel_rfl) (by kernel_rfl) (by kernel_rfl) (fun _ _ _ h => h) (.inl ⟨by kernel_rfl, fun W' hS => by go_simp⟩) qS ?_
            clear qS hL1 hL2 hL3 hL9 hsm hsm2 hcy hcy2 hs2 hs3 hy2 hy3 b1 b2 b3 b4 hl7 hl9
            refine wpAnyD_done (by kernel_rfl) ?_ _
            refine onlyN_mk ?_
            go_simp
            exact key10 _ hL _ _ _ _ _ _ _ _ _ _ _ _ _ _ _ _ _ _ _ _ _ _ _ _ _ _ _ _ _ _ _ _ _ _ _ _ _ _ _ _ _ _ _ _ _ _ _ _ _ _ _ _ _ _ _ _ _ _ _ _ _ _ _ _ _ _ _ _ _ _ _ _ _ _ _ _ _ _ _ _ _ _ _ _ _ _ _ _ _ _ _ _ _ _ _ _ _ _ _ _ _ _ _ _ _ _ _ _ _ _ _ _ _ _ _ _ _ _ _ _ _ _ 
        refine wp_onlyN ?_
        refine region_plain (fun W => Blk W w.heap.size #[.string nm, .slice da dn dm, vt, .slice (some ⟨b, o, none⟩) cn cm] 26) [] (by kernel_rfl) ?_
        have qS : (fun W => Blk W w.heap.size #[.string nm, .slice da dn dm, vt, .slice (some ⟨b, o, none⟩) cn cm] 26) W5.drew := hxW.box
        refine wpAnyD_take (i := 0) (v := .pointer (some ⟨w.heap.size, 3, none⟩)) rfl (by kernel_rfl) (by kernel_rfl) (by kernel_rfl) (by kernel_rfl) (by kernel_rfl) (fun _ _ _ h => h) (.inl ⟨by kernel_rfl, fun W' hS => by go_simp⟩) qS ?_
        refine wpAnyD_take (i := 1) (v := .slice (some ⟨b, o, none⟩) cn cm) rfl (by kernel_rfl) (by kernel_rfl) (by kernel_rfl) (by kernel_rfl) (by kernel_rfl) (fun _ _ _ h => h) (.inl ⟨by kernel_rfl, fun W' hS => by obtain ⟨c0, c1, c2, c3⟩ := Blk.four hS; go_simp⟩) qS ?_
        refine wpAnyD_take (i := 2) (v := .int .i64 k) rfl (by kernel_rfl) (by kernel_rfl) (by kernel_rfl) (by kernel_rfl) (by kernel_rfl) (fun _ _ _ h => h) (.inl ⟨by kernel_rfl, fun W' hS => by go_simp⟩) qS ?_
        refine wpAnyD_take (i := 3) (v := .pointer (some ⟨b, o + k * 24, none⟩)) rfl (by kernel_rfl) (by kernel_rfl) (by kernel_rfl) (by kernel_rfl) (by kernel_rfl) (fun _ _ _ h => h) (.inl ⟨by kernel_rfl, fun W' hS => by go_simp⟩) qS ?_
        refine wpAnyD_take (i := 6) (v := .pointer (some ⟨w.heap.size, 3, none⟩)) rfl (by kernel_rfl) (by kernel_rfl) (by kernel_rfl) (by kernel_rfl) (by kernel_rfl) (fun _ _ _ h => h) (.inl ⟨by kernel_rfl, fun W' hS => by go_simp⟩) qS ?_
        refine wpAnyD_take (i := 7) (v := .slice (some ⟨b, o, none⟩) cn cm) rfl (by kernel_rfl) (by kernel_rfl) (by kernel_rfl) (by kernel_rfl) (by kernel_rfl) (fun _ _ _ h => h) (.inl ⟨by kernel_rfl, fun W' hS => by obtain ⟨c0, c1, c2, c3⟩ := Blk.four hS; go_simp⟩) qS ?_
        obtain ⟨V1, hV1⟩ : ∃ V1, W5.drew = V1 := ⟨_, rfl⟩
        have hrng1 : V1.rangeAt b (o + k * 24) [S c.nm, S c.lb, .int .i64 c.fr, .int .i64 c.to, .int .i64 c.kn, .bool c.off, .int .u8 c.wh.op, S c.wh.nm, .int .u8 c.wh.kd, .bool c.wh.b3, .slice c.wh.s4.a c.wh.s4.n c.wh.s4.m, .bool c.wh.b5, .slice c.wh.s6.a c.wh.s6.n c.wh.s6.m, .int .i64 c.wh.i7, .slice c.wh.s8.a c.wh.s8.n c.wh.s8.m, .int .u8 c.th.op, S c.th.nm, .int .u8 c.th.kd, .bool c.th.b3, .slice c.th.s4.a c.th.s4.n c.th.s4.m, .bool c.th.b5, .slice c.th.s6.a c.th.s6.n c.th.s6.m, .int .i64 c.th.i7, .slice c.th.s8.a c.th.s8.n c.th.s8.m] := hV1 ▸ hrng
        rw [hV1] at qS hdr ⊢
        have sV1 : W5.heap.size ≤ V1.heap.size := hdr.size
        clear hV1
        refine wpAnyD_one (i := 4) (by kernel_rfl) rfl (by kernel_rfl) ?_
        go_frame
        refine wp_load_mid 56 (.tmp 53) rfl b (o + k * 24) rfl [S c.nm, S c.lb, .int .i64 c.fr, .int .i64 c.to, .int .i64 c.kn, .bool c.off, .int .u8 c.wh.op, S c.wh.nm, .int .u8 c.wh.kd, .bool c.wh.b3, .slice c.wh.s4.a c.wh.s4.n c.wh.s4.m, .bool c.wh.b5, .slice c.wh.s6.a c.wh.s6.n c.wh.s6.m, .int .i64 c.wh.i7, .slice c.wh.s8.a c.wh.s8.n c.wh.s8.m, .int .u8 c.th.op, S c.th.nm, .int .u8 c.th.kd, .bool c.th.b3, .slice c.th.s4.a c.th.s4.n c.th.s4.m, .bool c.th.b5, .slice c.th.s6.a c.th.s6.n c.th.s6.m, .int .i64 c.th.i7, .slice c.th.s8.a c.th.s8.n c.th.s8.m] _ hrng1 Try.underlying56 rfl (by exact infoCl) ?_
        refine ⟨fun _ => qS, ?_⟩
        go_simp
        refine wpAnyD_one (i := 5) (by kernel_rfl) rfl (by kernel_rfl) ?_
        go_simp
        obtain ⟨V2, hV2⟩ : ∃ V2, V1.alloc (.cells #[S c.nm, S c.lb, .int .i64 c.fr, .int .i64 c.to, .int .i64 c.kn, .bool c.off, .int .u8 c.wh.op, S c.wh.nm, .int .u8 c.wh.kd, .bool c.wh.b3, .slice c.wh.s4.a c.wh.s4.n c.wh.s4.m, .bool c.wh.b5, .slice c.wh.s6.a c.wh.s6.n c.wh.s6.m, .int .i64 c.wh.i7, .slice c.wh.s8.a c.wh.s8.n c.wh.s8.m, .int .u8 c.th.op, S c.th.nm, .int .u8 c.th.kd, .bool c.th.b3, .slice c.th.s4.a c.th.s4.n c.th.s4.m, .bool c.th.b5, .slice c.th.s6.a c.th.s6.n c.th.s6.m, .int .i64 c.th.i7, .slice c.th.s8.a c.th.s8.n c.th.s8.m] 56) = V2 := ⟨_, rfl⟩
        have bV2 : Below W5.heap.size W5 V2 := by rw [← hV2]; exact hdr.alloc sV1 _
        have sV2 : V2.heap.size = V1.heap.size + 1 := by rw [← hV2]; simp
        have qe : Blk V2 V1.heap.size #[S c.nm, S c.lb, .int .i64 c.fr, .int .i64 c.to, .int .i64 c.kn, .bool c.off, .int .u8 c.wh.op, S c.wh.nm, .int .u8 c.wh.kd, .bool c.wh.b3, .slice c.wh.s4.a c.wh.s4.n c.wh.s4.m, .bool c.wh.b5, .slice c.wh.s6.a c.wh.s6.n c.wh.s6.m, .int .i64 c.wh.i7, .slice c.wh.s8.a c.wh.s8.n c.wh.s8.m, .int .u8 c.th.op, S c.th.nm, .int .u8 c.th.kd, .bool c.th.b3, .slice c.th.s4.a c.th.s4.n c.th.s4.m, .bool c.th.b5, .slice c.th.s6.a c.th.s6.n c.th.s6.m, .int .i64 c.th.i7, .slice c.th.s8.a c.th.s8.n c.th.s8.m] 56 := by rw [← hV2]; exact Blk.new V1 _ _
        rw [hV2]
        clear hV2
        refine ⟨hxW.box.below bV2 hxW.lt, ?_⟩
        have own0 : OwnR 24 56 W5.heap.size V2 (.slice (some ⟨V1.heap.size, 0, none⟩) 1 1) ([c].map Cv.cl) := OwnR.lit (rs := [c].map Cv.cl) qe (by omega) (cl_rows _) (by rw [List.map_singleton, List.flatten_singleton, hce]) (by simp [maxLen])
        refine wpAnyD_one (i := 8) (by kernel_rfl) rfl (by kernel_rfl) ?_
        refine wp_append_any (.tmp 55) (.tmp 57) 24 rfl Try.underlying24 Try.infoClause (by kernel_rfl) (by decide) rfl own0 (ao := some ⟨b, o, none⟩) (m := cn) (cap := cm) (ms := vs.map Cv.cl) rfl (by rw [List.length_map]; exact hvl) (cl_rows _) (fun _ => ⟨b, o, rfl, fun i r j u hi hj => (bV2.cell (p := ⟨b, o + (i * 24 + j), none⟩) hbW5).trans (hsrcW i r j u hi hj)⟩) (by simp only [List.length_map, List.length_singleton, maxLen]; omega) (by simp only [List.length_map, List.length_singleton]; omega) (by omega) ?_
        intro v5 V3 own5 g5 a5
        have g5 : V2.grownBy V3 (Value.slice (some ⟨V1.heap.size, 0, none⟩) 1 1).ownBlock := g5
        have own5 : OwnR 24 56 W5.heap.size V3 v5 (((vs.drop k).take 1 ++ vs).map Cv.cl) := by
          rw [List.map_append, drop_take1 hcv]; exact own5
        have bV3 : Below W5.heap.size W5 V3 := bV2.trans (below_grown g5 (fun r hr => own0.low hr) (by omega))
        obtain ⟨ma, mc, rfl, _, _⟩ := own5.form
        obtain ⟨L, hL⟩ : ∃ L, (((vs.drop k).take 1 ++ vs).map Cv.cl).length = L := ⟨_, rfl⟩
        rw [hL] at own5 ⊢
        clear hL
        refine ⟨fun _ => hxW.box.below bV3 hxW.lt, ?_⟩
        go_simp
        refine wpAnyD_one (i := 9) (by kernel_rfl) rfl (by kernel_rfl) ?_
        go_simp
        try refine ⟨hxW.box.below bV3 hxW.lt, ?_⟩
        have q7 := q7.below bV3 q7.lt
        have q6 := q6.below bV3 q6.lt
        have hf := q7.free 3
        have hcl3 : V3.cell? ⟨b7, 3, none⟩ = some (.slice (some ⟨b, o, none⟩) cn cm) := q7.at rfl
        refine wpAnyD_one (i := 10) (by kernel_rfl) rfl (by kernel_rfl) ?_
        go_simp
        obtain ⟨V5, hV5⟩ : ∃ V5, V3.setCell ⟨b7, 3, none⟩ (.slice ma L mc) = V5 := ⟨_, rfl⟩
        have gs : V3.grownBy V5 (some b7) := by rw [← hV5]; exact grownBy_setCell _ _ _ _
        have q7' : Blk V5 b7 #[.string nm, .slice da dn dm, vt, .slice ma L mc] 26 := by rw [← hV5]; exact q7.set _
        have q6' : Blk V5 b6 #[.string nm, .slice da dn dm, vt, .slice la ll lc] 26 := q6.kept gs (fun e => by cases e; exact hne rfl)
        try rw [hV5]
        have own6 := own5.kept gs (.inr (fun e => by have := own5.low e; have := q7.lt; omega))
        have bF : Below w2.heap.size w2 V5 := (bW5.trans (bV3.mono bW5.size)).trans (below_grown gs (fun r e => by cases e; exact hb7) (by have := bW5.size; have := bV3.size; omega))
        have bK : Below K W5 V5 := (bV3.mono hx5.big).trans (below_grown gs (fun r e => by cases e; have := hx.big; omega) (by have := hx5.big; have := bV3.size; omega))
        clear hV5
        have hx6 := hx.below bF
        have hCm : Cls V5.heap.size V5 (.slice ma L mc) (moreP p k).cls := own6.cls (d := c) (by
            rw [List.length_append, hvl, List.length_take, List.length_drop, hvl]
            show _ = ((p.cls.drop k).take 1 ++ p.cls).length
            rw [List.length_append, List.length_take, List.length_drop, ← HCN.out]) (fun i x hxx => by
          have hxx : ((p.cls.drop k).take 1 ++ p.cls)[i]? = some x := hxx
          rw [more_get (by rw [← HCN.out]; exact hkl)] at hxx
          rw [more_get (by rw [hvl]; exact hkl)]
          exact (hsxW _ x c hxx).below bK (Nat.le_refl _) hx6.big)
        have own6l := (own6L.old bV3 (Nat.le_refl _)).kept gs (.inr (fun e => by have := own6L.low e; omega))
        have hCl6 : Cls V5.heap.size V5 (.slice la ll lc) (lessP p k).cls := own6l.cls (d := c) (by
            rw [List.length_append, List.length_take, List.length_drop, hvl]
            show _ = (p.cls.take k ++ p.cls.drop (k + 1)).length
            rw [List.length_append, List.length_take, List.length_drop, ← HCN.out]) (fun i x hxx => by
          have hxx : (p.cls.take k ++ p.cls.drop (k + 1))[i]? = some x := hxx
          rw [skip_get (by rw [← HCN.out]; exact hkl)] at hxx
          rw [skip_get (by rw [hvl]; exact hkl)]
          exact (hsxW _ x c hxx).below bK (Nat.le_refl _) hx6.big)
        have hDf : Defs V5.heap.size V5 (.slice da dn dm) p.defs := hx6.plan.1.below (Below.refl _ _) hx6.big hx6.big
        refine ⟨hx6.box, ?_⟩
        refine wpAnyD_done (by kernel_rfl) ?_ _
        refine onlyN_mk ?_
        try go_frame
        exact key6 V5 ma L mc hx6 q6' q7' ⟨hDf, hCl6⟩ ⟨hDf, hCm⟩ _ _ _ _ _ _ _ _ _ _ _ _ _ _ _ _ _ _ _ _ _ _ _ _ _ _ _ _ _ _ _ _ _ _ _ _ _ _ _ _ _ _ _ _ _ _ _ _ _ _ _ _ _ _ _ _ _ _ _ _ _ _ _ _ _ _ _ _ _ _ _ _ _ _ _ _ _ _ _ _ _ _ _ _ _ _ _ _ _ _ _ _ _ _ _ _ _ _ _ _ _ _ _ _ _ _ _ _ _ _ _ _ _ _ _ _ _ _ _ _ 
      refine wp_onlyN ?_
      refine region_plain (fun W => Blk W w.heap.size #[.string nm, .slice da dn dm, vt, .slice (some ⟨b, o, none⟩) cn cm] 26) [] (by kernel_rfl) ?_
      have qS : (fun W => Blk W w.heap.size #[.string nm, .slice da dn dm, vt, .slice (some ⟨b, o, none⟩) cn cm] 26) W.drew := hxW.box
      refine wpAnyD_take (i := 1) (v := .pointer (some ⟨w.heap.size, 3, none⟩)) rfl (by kernel_rfl) (by kernel_rfl) (by kernel_rfl) (by kernel_rfl) (by kernel_rfl) (fun _ _ _ h => h) (.inl ⟨by kernel_rfl, fun W' hS => by go_simp⟩) qS ?_
      refine wpAnyD_take (i := 2) (v := .slice (some ⟨b, o, none⟩) cn cm) rfl (by kernel_rfl) (by kernel_rfl) (by kernel_rfl) (by kernel_rfl) (by kernel_rfl) (fun _ _ _ h => h) (.inl ⟨by kernel_rfl, fun W' hS => by obtain ⟨c0, c1, c2, c3⟩ := Blk.four hS; go_simp⟩) qS ?_
      refine wpAnyD_take (i := 3) (v := .int .i64 k) rfl (by kernel_rfl) (by kernel_rfl) (by kernel_rfl) (by kernel_rfl) (by kernel_rfl) (fun _ _ _ h => h) (.inl ⟨by kernel_rfl, fun W' hS => by go_simp⟩) qS ?_
      refine wpAnyD_take (i := 4) (v := .slice (some ⟨b, o, none⟩) k cm) rfl (by kernel_rfl) (by kernel_rfl) (by kernel_rfl) (by kernel_rfl) (by kernel_rfl) (fun _ _ _ h => h) (.inl ⟨by kernel_rfl, fun W' hS => by go_simp⟩) qS ?_
      refine wpAnyD_take (i := 6) (v := .pointer (some ⟨w.heap.size, 3, none⟩)) rfl (by kernel_rfl) (by kernel_rfl) (by kernel_rfl) (by kernel_rfl) (by kernel_rfl) (fun _ _ _ h => h) (.inl ⟨by kernel_rfl, fun W' hS => by go_simp⟩) qS ?_
      refine wpAnyD_take (i := 7) (v := .slice (some ⟨b, o, none⟩) cn cm) rfl (by kernel_rfl) (by kernel_rfl) (by kernel_rfl) (by kernel_rfl) (by kernel_rfl) (fun _ _ _ h => h) (.inl ⟨by kernel_rfl, fun W' hS => by obtain ⟨c0, c1, c2, c3⟩ := Blk.four hS; go_simp⟩) qS ?_
      refine wpAnyD_take (i := 8) (v := .int .i64 k) rfl (by kernel_rfl) (by kernel_rfl) (by kernel_rfl) (by kernel_rfl) (by kernel_rfl) (fun _ _ _ h => h) (.inl ⟨by kernel_rfl, fun W' hS => by go_simp⟩) qS ?_
      refine wpAnyD_take (i := 9) (v := .int .i64 (k + 1)) rfl (by kernel_rfl) (by kernel_rfl) (by kernel_rfl) (by kernel_rfl) (by kernel_rfl) (fun _ _ _ h => h) (.inl ⟨by kernel_rfl, fun W' hS => by go_simp⟩) qS ?_
      refine wpAnyD_take (i := 10) (v := .slice ao (cn - (k + 1)) (cm - (k + 1))) rfl (by kernel_rfl) (by kernel_rfl) (by kernel_rfl) (by kernel_rfl) (by kernel_rfl) (fun _ _ _ h => h) (.inl ⟨by kernel_rfl, fun W' hS => by by_cases e : cm = k + 1; { rw [hao1 e]; go_simp }; rw [hao2 e]; go_simp⟩) qS ?_
      obtain ⟨V1, hV1⟩ : ∃ V1, W.drew = V1 := ⟨_, rfl⟩
      rw [hV1] at qS hdr ⊢
      have sV1 : W.heap.size ≤ V1.heap.size := hdr.size
      clear hV1
      refine wpAnyD_one (i := 0) (by kernel_rfl) rfl (by kernel_rfl) ?_
      go_simp
      obtain ⟨V2, hV2⟩ : ∃ V2, V1.alloc (.cells #[] 56) = V2 := ⟨_, rfl⟩
      have bV2 : Below W.heap.size W V2 := by rw [← hV2]; exact hdr.alloc sV1 _
      have sV2 : V2.heap.size = V1.heap.size + 1 := by rw [← hV2]; simp
      have qe : Blk V2 V1.heap.size #[] 56 := by rw [← hV2]; exact Blk.new V1 _ _
      rw [hV2]
      clear hV2
      refine ⟨hxW.box.below bV2 hxW.lt, ?_⟩
      have own0 : OwnR 24 56 W.heap.size V2 (.slice (some ⟨V1.heap.size, 0, none⟩) 0 0) [] := OwnR.lit (rs := []) qe (by omega) (RowsOk.nil _) rfl (by simp [maxLen])
      have hl5 : ((vs.take k).map Cv.cl).length = k := by rw [List.length_map, List.length_take]; omega
      have hl6 : ((vs.drop (k + 1)).map Cv.cl).length = cn - (k + 1) := by rw [List.length_map, List.length_drop, hvl]
      refine wpAnyD_one (i := 5) (by kernel_rfl) rfl (by kernel_rfl) ?_
      refine wp_append_any (.tmp 37) (.tmp 41) 24 rfl Try.underlying24 Try.infoClause (by kernel_rfl) (by decide) rfl own0 (ao := some ⟨b, o, none⟩) (m := k) (cap := cm) (ms := (vs.take k).map Cv.cl) rfl hl5 (cl_rows _) (fun _ => ⟨b, o, rfl, fun i r j u hi hj => (bV2.cell (p := ⟨b, o + (i * 24 + j), none⟩) hbW).trans (hsrc i r j u (by
          rw [List.map_take, List.getElem?_take] at hi
          split at hi
          · exact hi
          · cases hi) hj)⟩) (by simp only [List.length_nil, maxLen]; omega) (by simp only [List.length_nil]; omega) (by omega) ?_
      intro v5 V3 own5 g5 a5
      have g5 : V2.grownBy V3 (Value.slice (some ⟨V1.heap.size, 0, none⟩) 0 0).ownBlock := g5
      rw [List.nil_append] at own5
      have bV3 : Below W.heap.size W V3 := bV2.trans (below_grown g5 (fun r hr => own0.low hr) (by omega))
      obtain ⟨a5', c5, rfl, _, _⟩ := own5.form
      rw [hl5]
      rw [hl5] at own5
      refine ⟨fun _ => hxW.box.below bV3 hxW.lt, ?_⟩
      go_simp
      refine wpAnyD_one (i := 11) (by kernel_rfl) rfl (by kernel_rfl) ?_
      refine wp_append_any (.tmp 42) (.tmp 47) 24 rfl Try.underlying24 Try.infoClause (by kernel_rfl) (by decide) rfl own5 (ao := ao) (m := cn - (k + 1)) (cap := cm - (k + 1)) (ms := (vs.drop (k + 1)).map Cv.cl) rfl hl6 (cl_rows _) (fun hm => ⟨b, o + (k + 1) * 24, hao2 (by omega), fun i r j u hi hj => by
          rw [List.map_drop, List.getElem?_drop] at hi
          have := (bV3.cell (p := ⟨b, o + ((k + 1 + i) * 24 + j), none⟩) hbW).trans (hsrc (k + 1 + i) r j u hi hj)
          rwa [show o + ((k + 1 + i) * 24 + j) = o + (k + 1) * 24 + (i * 24 + j) by rw [Nat.add_mul (k + 1) i]; omega] at this⟩) (by rw [hl5]; simp only [maxLen]; omega) (by rw [hl5]; omega) (by have := bV3.size; omega) ?_
      intro v6 V4 own6 g6 a6
      have g6 : V3.grownBy V4 (Value.slice a5' k c5).ownBlock := g6
      rw [← List.map_append] at own6
      have bV4 : Below W.heap.size W V4 := bV3.trans (below_grown g6 (fun r hr => own5.low hr) (by have := bV3.size; omega))
      obtain ⟨la, lc, rfl, _, _⟩ := own6.form
      obtain ⟨ll, hll⟩ : ∃ L, (((vs.take k) ++ (vs.drop (k + 1))).map Cv.cl).length = L := ⟨_, rfl⟩
      rw [hll] at own6 ⊢
      refine ⟨fun _ => hxW.box.below bV4 hxW.lt, ?_⟩
      have q6 := q6.below bV4 q6.lt
      have q7 := q7.below bV4 q7.lt
      have q6f : V4.cell? ⟨b6, 3, none⟩ = some (.slice (some ⟨b, o, none⟩) cn cm) := q6.at rfl
      have q6g : V4.frozen? ⟨b6, 3, none⟩ = false := q6.free 3
      have hb6W : b6 < W.heap.size := q60.lt
      have hb7W : b7 < W.heap.size := q70.lt
      clear g5 g6 a5 a6 own5 own0 qe
      go_simp
      refine wpAnyD_one (i := 12) (by kernel_rfl) rfl (by kernel_rfl) ?_
      go_simp
      try refine ⟨hxW.box.below bV4 hxW.lt, ?_⟩
      refine wpAnyD_one (i := 13) (by kernel_rfl) rfl (by kernel_rfl) ?_
      go_simp
      obtain ⟨W5, hW5⟩ : ∃ V5, V4.setCell ⟨b6, 3, none⟩ (.slice la ll lc) = V5 := ⟨_, rfl⟩
      have gs : V4.grownBy W5 (some b6) := by rw [← hW5]; exact grownBy_setCell _ _ _ _
      have q6 : Blk W5 b6 #[.string nm, .slice da dn dm, vt, .slice la ll lc] 26 := by rw [← hW5]; exact q6.set _
      have q7 : Blk W5 b7 #[.string nm, .slice da dn dm, vt, .slice (some ⟨b, o, none⟩) cn cm] 26 := q7.kept gs (fun e => by cases e; exact hne rfl)
      try rw [hW5]
      have own6 := own6.kept gs (.inr (fun e => by have := own6.low e; omega))
      have s5 : W.heap.size ≤ W5.heap.size := Nat.le_trans bV4.size gs.size
      have bW5 : Below w2.heap.size w2 W5 := (bW.trans (bV4.mono bW.size)).trans (below_grown gs (fun r e => by cases e; exact hb6) (by have := bW.size; have := bV4.size; omega))
      have bK5 : Below K W W5 := (bV4.mono (Nat.le_trans hx.big bW.size)).trans (below_grown gs (fun r e => by cases e; have := hx.big; omega) (by have := bW.size; have := bV4.size; have := hx.big; omega))
      have hx5 := hx.below bW5
      have hsrc5 : ∀ (i : Nat) (r : List Value) (j : Nat) (u : Value), (vs.map Cv.cl)[i]? = some r → r[j]? = some u → W5.cell? ⟨b, o + (i * 24 + j), none⟩ = some u := fun i r j u hi hj => (bK5.cell (p := ⟨b, o + (i * 24 + j), none⟩) hbK).trans (hsrc i r j u hi hj)
      have hsxW : ∀ (i : Nat) (x : Cl) (d : Cv), p.cls[i]? = some x → ClX K W5 x (vs[i]?.getD d) := fun i x d hi => (hsx i x d hi).below bK5 (Nat.le_refl _) (Nat.le_refl _)
      have hbW5 : b < W5.heap.size := by omega
      clear hW5 q6f q6g
      try refine ⟨hx5.box, ?_⟩
      refine wpAnyD_done (by kernel_rfl) ?_ _
      refine onlyN_mk ?_
      try go_frame
      exact key5 W5 la ll lc hx5 bW5 q6 q7 own6 hsrc5 hsxW s5 _ _ _ _ _ _ _ _ _ _ _ _ _ _ _ _ _ _ _ _ _ _ _ _ _ _ _ _ _ _ _ _ _ _ _ _ _ _ _ _ _ _ _ _ _ _ _ _ _ _ _ _ _ _ _ _ _ _ _ _ _ _ _ _ _ _ _ _ _ _ _ _ _ _ _ _ _ _ _ _ _ _ _ _ _ _ _ _ _ _ _ _ _ _ _ _ _ _ _ _ _ _ _ _ _ _ _ _ _ _ _ _ _ _ _ _ _ _ _ _ 
    refine wp_onlyN ?_
    refine region_plain (fun W => Blk W w.heap.size #[.string nm, .slice da dn dm, vt, .slice ca cn cm] 26) [] (by kernel_rfl) ?_
    have qS : (fun W => Blk W w.heap.size #[.string nm, .slice da dn dm, vt, .slice ca cn cm] 26) w2.drew := hx.box
    have bd : Below w2.heap.size w2 w2.drew := (Below.refl _ w2).drew
    refine wpAnyD_take (i := 0) (v := .agg #[.string nm, .slice da dn dm, vt, .slice ca cn cm]) rfl (by kernel_rfl) (by kernel_rfl) (by kernel_rfl) (by kernel_rfl) (by kernel_rfl) (fun _ _ _ h => h) (.inl ⟨by kernel_rfl, fun W' hS => by obtain ⟨c0, c1, c2, c3⟩ := Blk.four hS; go_simp⟩) qS ?_
    refine wpAnyD_take (i := 1) (v := .agg #[.string nm, .slice da dn dm, vt, .slice ca cn cm]) rfl (by kernel_rfl) (by kernel_rfl) (by kernel_rfl) (by kernel_rfl) (by kernel_rfl) (fun _ _ _ h => h) (.inl ⟨by kernel_rfl, fun W' hS => by obtain ⟨c0, c1, c2, c3⟩ := Blk.four hS; go_simp⟩) qS ?_
    have sd : w2.drew.heap.size = w2.heap.size := rfl
    obtain ⟨Wd, hWd⟩ : ∃ Wd, w2.drew = Wd := ⟨_, rfl⟩
    rw [hWd] at qS bd sd ⊢
    clear hWd
    refine wpAnyD_two (i := 2) (j := 3) (by kernel_rfl) rfl rfl (by kernel_rfl) (by kernel_rfl) ?_ ?_
    · go_simp
      obtain ⟨Wa, hWa⟩ : ∃ Wa, Wd.alloc (.cells #[.string ⟨#[]⟩, .slice none 0 0, .slice none 0 0, .slice none 0 0] 26) = Wa := ⟨_, rfl⟩
      have ba : Below w2.heap.size w2 Wa := by rw [← hWa]; exact bd.alloc (by omega) _
      have sa : Wa.heap.size = w2.heap.size + 1 := by rw [← hWa]; simp [sd]
      have qa : Blk Wa w2.heap.size #[.string ⟨#[]⟩, .slice none 0 0, .slice none 0 0, .slice none 0 0] 26 := by rw [← hWa, ← sd]; exact Blk.new Wd _ _
      rw [hWa]
      clear hWa
      refine ⟨hx.box.below ba hx.lt, ?_⟩
      refine wpAnyD_one (i := 3) (by kernel_rfl) rfl (by kernel_rfl) ?_
      go_simp
      obtain ⟨Wb, hWb⟩ : ∃ Wb, Wa.alloc (.cells #[.string ⟨#[]⟩, .slice none 0 0, .slice none 0 0, .slice none 0 0] 26) = Wb := ⟨_, rfl⟩
      have bb : Below w2.heap.size w2 Wb := by rw [← hWb]; exact ba.alloc (by omega) _
      have qb : Blk Wb (w2.heap.size + 1) #[.string ⟨#[]⟩, .slice none 0 0, .slice none 0 0, .slice none 0 0] 26 := by rw [← hWb, ← sa]; exact Blk.new Wa _ _
      have qa2 : Blk Wb w2.heap.size #[.string ⟨#[]⟩, .slice none 0 0, .slice none 0 0, .slice none 0 0] 26 := by rw [← hWb]; exact qa.alloc _
      have sb : Wb.heap.size = w2.heap.size + 2 := by rw [← hWb]; simp [sa]
      rw [hWb]
      clear hWb qa
      refine ⟨hx.box.below bb hx.lt, ?_⟩
      refine wpAnyD_one (i := 4) (by kernel_rfl) rfl (by kernel_rfl) ?_
      refine wp_store_row 26 (.tmp 6) (.tmp 35) rfl (w2.heap.size) #[.string nm, .slice da dn dm, vt, .slice ca cn cm] rfl rfl 26 _ qa2 (by exact infoPlan) rfl (plan_one _ _ _ _ _ _ _ _ hv1) ?_
      have g1 := grownBy_setRow (W := Wb) (b := w2.heap.size) #[.string nm, .slice da dn dm, vt, .slice ca cn cm]
      have r1 : Blk (Wb.setRow (w2.heap.size) #[.string nm, .slice da dn dm, vt, .slice ca cn cm]) (w2.heap.size) #[.string nm, .slice da dn dm, vt, .slice ca cn cm] 26 := setRow_heap _ _ _ _ _ _ qa2
      have r2 : Blk (Wb.setRow (w2.heap.size) #[.string nm, .slice da dn dm, vt, .slice ca cn cm]) (w2.heap.size + 1) #[.string ⟨#[]⟩, .slice none 0 0, .slice none 0 0, .slice none 0 0] 26 := qb.kept g1 (fun e => by simp at e)
      have bc := bb.trans (below_grown g1 (B := w2.heap.size) (fun r e => by cases e; omega) (by omega))
      obtain ⟨Wc, hWc⟩ : ∃ Wc, Wb.setRow (w2.heap.size) #[.string nm, .slice da dn dm, vt, .slice ca cn cm] = Wc := ⟨_, rfl⟩
      rw [hWc] at r1 r2 bc ⊢
      have sc : Wc.heap.size = w2.heap.size + 2 := by rw [← hWc]; simp [sb]
      clear hWc g1 qa2 qb
      refine ⟨fun _ => hx.box.below bc hx.lt, ?_⟩
      go_simp
      refine wpAnyD_one (i := 5) (by kernel_rfl) rfl (by kernel_rfl) ?_
      refine wp_store_row 26 (.tmp 7) (.tmp 36) rfl (w2.heap.size + 1) #[.string nm, .slice da dn dm, vt, .slice ca cn cm] rfl rfl 26 _ r2 (by exact infoPlan) rfl (plan_one _ _ _ _ _ _ _ _ hv1) ?_
      have g1 := grownBy_setRow (W := Wc) (b := w2.heap.size + 1) #[.string nm, .slice da dn dm, vt, .slice ca cn cm]
      have r3 : Blk (Wc.setRow (w2.heap.size + 1) #[.string nm, .slice da dn dm, vt, .slice ca cn cm]) (w2.heap.size + 1) #[.string nm, .slice da dn dm, vt, .slice ca cn cm] 26 := setRow_heap _ _ _ _ _ _ r2
      have r4 : Blk (Wc.setRow (w2.heap.size + 1) #[.string nm, .slice da dn dm, vt, .slice ca cn cm]) (w2.heap.size) #[.string nm, .slice da dn dm, vt, .slice ca cn cm] 26 := r1.kept g1 (fun e => by simp at e)
      have be := bc.trans (below_grown g1 (B := w2.heap.size) (fun r e => by cases e; omega) (by omega))
      refine ⟨fun _ => hx.box.below be hx.lt, ?_⟩
      refine wpAnyD_done (by kernel_rfl) ?_ _
      refine onlyN_mk ?_
      exact key (w2.heap.size) (w2.heap.size + 1) _ (by omega) (by omega) (by omega) r4 r3 be _ _ _ _ _ _ _ _ _ _ _ _ _ _ _ _ _ _ _ _ _ _ _ _ _ _ _ _ _ _ _ _ _ _ _ _ _ _ _ _ _ _ _ _ _ _ _ _ _ _ _ _ _ _ _ _ _ _ _ _ _ _ _ _ _ _ _ _ _ _ _ _ _ _ _ _ _ _ _ _ _ _ _ _ _ _ _ _ _ _ _ _ _ _ _ _ _ _ _ _ _ _ _ _ _ _ _ _ _ _ _ _ _ _ _ _ _ _ _ _ 
    · go_simp
      obtain ⟨Wa, hWa⟩ : ∃ Wa, Wd.alloc (.cells #[.string ⟨#[]⟩, .slice none 0 0, .slice none 0 0, .slice none 0 0] 26) = Wa := ⟨_, rfl⟩
      have ba : Below w2.heap.size w2 Wa := by rw [← hWa]; exact bd.alloc (by omega) _
      have sa : Wa.heap.size = w2.heap.size + 1 := by rw [← hWa]; simp [sd]
      have qa : Blk Wa w2.heap.size #[.string ⟨#[]⟩, .slice none 0 0, .slice none 0 0, .slice none 0 0] 26 := by rw [← hWa, ← sd]; exact Blk.new Wd _ _
      rw [hWa]
      clear hWa
      refine ⟨hx.box.below ba hx.lt, ?_⟩
      refine wpAnyD_one (i := 2) (by kernel_rfl) rfl (by kernel_rfl) ?_
      go_simp
      obtain ⟨Wb, hWb⟩ : ∃ Wb, Wa.alloc (.cells #[.string ⟨#[]⟩, .slice none 0 0, .slice none 0 0, .slice none 0 0] 26) = Wb := ⟨_, rfl⟩
      have bb : Below w2.heap.size w2 Wb := by rw [← hWb]; exact ba.alloc (by omega) _
      have qb : Blk Wb (w2.heap.size + 1) #[.string ⟨#[]⟩, .slice none 0 0, .slice none 0 0, .slice none 0 0] 26 := by rw [← hWb, ← sa]; exact Blk.new Wa _ _
      have qa2 : Blk Wb w2.heap.size #[.string ⟨#[]⟩, .slice none 0 0, .slice none 0 0, .slice none 0 0] 26 := by rw [← hWb]; exact qa.alloc _
      have sb : Wb.heap.size = w2.heap.size + 2 := by rw [← hWb]; simp [sa]
      rw [hWb]
      clear hWb qa
      refine ⟨hx.box.below bb hx.lt, ?_⟩
      refine wpAnyD_one (i := 4) (by kernel_rfl) rfl (by kernel_rfl) ?_
      refine wp_store_row 26 (.tmp 6) (.tmp 35) rfl (w2.heap.size + 1) #[.string nm, .slice da dn dm, vt, .slice ca cn cm] rfl rfl 26 _ qb (by exact infoPlan) rfl (plan_one _ _ _ _ _ _ _ _ hv1) ?_
      have g1 := grownBy_setRow (W := Wb) (b := w2.heap.size + 1) #[.string nm, .slice da dn dm, vt, .slice ca cn cm]
      have r1 : Blk (Wb.setRow (w2.heap.size + 1) #[.string nm, .slice da dn dm, vt, .slice ca cn cm]) (w2.heap.size + 1) #[.string nm, .slice da dn dm, vt, .slice ca cn cm] 26 := setRow_heap _ _ _ _ _ _ qb
      have r2 : Blk (Wb.setRow (w2.heap.size + 1) #[.string nm, .slice da dn dm, vt, .slice ca cn cm]) (w2.heap.size) #[.string ⟨#[]⟩, .slice none 0 0, .slice none 0 0, .slice none 0 0] 26 := qa2.kept g1 (fun e => by simp at e)
      have bc := bb.trans (below_grown g1 (B := w2.heap.size) (fun r e => by cases e; omega) (by omega))
      obtain ⟨Wc, hWc⟩ : ∃ Wc, Wb.setRow (w2.heap.size + 1) #[.string nm, .slice da dn dm, vt, .slice ca cn cm] = Wc := ⟨_, rfl⟩
      rw [hWc] at r1 r2 bc ⊢
      have sc : Wc.heap.size = w2.heap.size + 2 := by rw [← hWc]; simp [sb]
      clear hWc g1 qa2 qb
      refine ⟨fun _ => hx.box.below bc hx.lt, ?_⟩
      go_simp
      refine wpAnyD_one (i := 5) (by kernel_rfl) rfl (by kernel_rfl) ?_
      refine wp_store_row 26 (.tmp 7) (.tmp 36) rfl (w2.heap.size) #[.string nm, .slice da dn dm, vt, .slice ca cn cm] rfl rfl 26 _ r2 (by exact infoPlan) rfl (plan_one _ _ _ _ _ _ _ _ hv1) ?_
      have g1 := grownBy_setRow (W := Wc) (b := w2.heap.size) #[.string nm, .slice da dn dm, vt, .slice ca cn cm]
      have r3 : Blk (Wc.setRow (w2.heap.size) #[.string nm, .slice da dn dm, vt, .slice ca cn cm]) (w2.heap.size) #[.string nm, .slice da dn dm, vt, .slice ca cn cm] 26 := setRow_heap _ _ _ _ _ _ r2
      have r4 : Blk (Wc.setRow (w2.heap.size) #[.string nm, .slice da dn dm, vt, .slice ca cn cm]) (w2.heap.size + 1) #[.string nm, .slice da dn dm, vt, .slice ca cn cm] 26 := r1.kept g1 (fun e => by simp at e)
      have be := bc.trans (below_grown g1 (B := w2.heap.size) (fun r e => by cases e; omega) (by omega))
      refine ⟨fun _ => hx.box.below be hx.lt, ?_⟩
      refine wpAnyD_done (by kernel_rfl) ?_ _
      refine onlyN_mk ?_
      exact key (w2.heap.size + 1) (w2.heap.size) _ (by omega) (by omega) (by omega) r4 r3 be _ _ _ _ _ _ _ _ _ _ _ _ _ _ _ _ _ _ _ _ _ _ _ _ _ _ _ _ _ _ _ _ _ _ _ _ _ _ _ _ _ _ _ _ _ _ _ _ _ _ _ _ _ _ _ _ _ _ _ _ _ _ _ _ _ _ _ _ _ _ _ _ _ _ _ _ _ _ _ _ _ _ _ _ _ _ _ _ _ _ _ _ _ _ _ _ _ _ _ _ _ _ _ _ _ _ _ _ _ _ _ _ _ _ _ _ _ _ _ _ 
end Go.Proofs.Ythbnbjigmgoldaa
