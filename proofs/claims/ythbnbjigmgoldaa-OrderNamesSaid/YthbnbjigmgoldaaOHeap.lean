/- container/heap on a row of numbers. No conditions beyond those stated. -/
import Derived.Test.YthbnbjigmgoldaaOHeapS
import Derived.Outline
namespace Go.Proofs.Ythbnbjigmgoldaa
open Go.RowKit
set_option linter.unusedVariables false

theorem minfo (nm : String) (pt : Array FieldStep) (f : Option (FuncId × Bool)) (h : ((Try.prog.info? 91).bind fun i => i.methods.find? (·.name == nm)).map (fun m => (m.path, m.func)) = some (pt, f)) :
    ∃ i m, Try.prog.info? 91 = some i ∧ i.methods.find? (·.name == nm) = some m ∧ m.path = pt ∧ m.func = f := by
  cases hi : Try.prog.info? 91 with
  | none => rw [hi] at h; simp at h
  | some i =>
    rw [hi] at h
    simp only [Option.bind_some, Option.map_eq_some_iff, Prod.mk.injEq] at h
    obtain ⟨m, h1, h2, h3⟩ := h
    exact ⟨i, m, rfl, h1, h2, h3⟩
theorem mLess : ((Try.prog.info? 91).bind fun i => i.methods.find? (·.name == "Less")).map (fun m => (m.path, m.func)) = some (#[⟨89, 0, true⟩], some (88, false)) := by kernel_rfl
theorem mSwap : ((Try.prog.info? 91).bind fun i => i.methods.find? (·.name == "Swap")).map (fun m => (m.path, m.func)) = some (#[⟨89, 0, true⟩], some (90, false)) := by kernel_rfl
theorem mLen : ((Try.prog.info? 91).bind fun i => i.methods.find? (·.name == "Len")).map (fun m => (m.path, m.func)) = some (#[⟨89, 0, true⟩], some (45, false)) := by kernel_rfl
theorem mPush : ((Try.prog.info? 91).bind fun i => i.methods.find? (·.name == "Push")).map (fun m => (m.path, m.func)) = some (#[], some (92, true)) := by kernel_rfl
theorem mPop : ((Try.prog.info? 91).bind fun i => i.methods.find? (·.name == "Pop")).map (fun m => (m.path, m.func)) = some (#[], some (91, true)) := by kernel_rfl
theorem meth_field (F R : Nat) (w : World) (v : Value) (nm : String) (f : FuncId) (h : w.cell? ⟨R, 0, none⟩ = some v) (hm : ((Try.prog.info? 91).bind fun i => i.methods.find? (·.name == nm)).map (fun m => (m.path, m.func)) = some (#[⟨89, 0, true⟩], some (f, false))) :
    (method (F + 1) 91 (.pointer (some ⟨R, 0, none⟩)) nm).run Try.prog w = .ok (f, v) w := by
  obtain ⟨i, m, h1, h2, h3, h4⟩ := minfo nm _ _ hm
  unfold method
  simp [go_sem, typeInfo, h1, h2, h3, h4, follow, Place.get, receiverAt]
  rw [h]; rfl
theorem meth_ptr (F R : Nat) (w : World) (nm : String) (f : FuncId) (hm : ((Try.prog.info? 91).bind fun i => i.methods.find? (·.name == nm)).map (fun m => (m.path, m.func)) = some (#[], some (f, true))) :
    (method (F + 1) 91 (.pointer (some ⟨R, 0, none⟩)) nm).run Try.prog w = .ok (f, .pointer (some ⟨R, 0, none⟩)) w := by
  obtain ⟨i, m, h1, h2, h3, h4⟩ := minfo nm _ _ hm
  unfold method
  simp [go_sem, typeInfo, h1, h2, h3, h4, follow, Place.get, receiverAt]

/-! ### Less, Swap -/
theorem less_any (base g n c : Nat) (hs : List Nat) (i j : Nat) (w : World) (hn : hs.length = n) (h : OwnN base w (.slice (some ⟨g, 0, none⟩) n c) hs) (hi : i < n) (hj : j < n) (hbig : n ≤ 2 ^ 40) :
    Calls Try.prog 88 #[.slice (some ⟨g, 0, none⟩) n c, .int .i64 i, .int .i64 j] w fun e w' => e = .returned (.bool (decide (fn hs i < fn hs j))) ∧ ∃ q, w' = w.drewN q := by
  subst hn
  obtain ⟨b, o, cap, he, _, _, _, hc⟩ := Nats.pos h.nats (by omega)
  simp only [Value.slice.injEq, Option.some.injEq, Addr.mk.injEq, and_true, true_and] at he
  obtain ⟨⟨rfl, rfl⟩, rfl⟩ := he
  refine (Try.IntSlice_Less g 0 c hs.length w (fun t => (fn hs t : Int)) (fun t ht => by have := hc t ht; simpa [fn] using this) i j hi hj (by omega)).mono ?_
  rintro e w' ⟨rfl, hq⟩
  exact ⟨ret_bool (by simp), hq⟩
theorem swap_any (base g n c : Nat) (hs : List Nat) (i j : Nat) (w : World) (hn : hs.length = n) (h : OwnN base w (.slice (some ⟨g, 0, none⟩) n c) hs) (hi : i < n) (hj : j < n) (hbig : n ≤ 2 ^ 40) :
    Calls Try.prog 90 #[.slice (some ⟨g, 0, none⟩) n c, .int .i64 i, .int .i64 j] w fun e w' => e = .returned (.tuple #[]) ∧ OwnN base w' (.slice (some ⟨g, 0, none⟩) n c) (swp hs i j) ∧ w.grownBy w' (some g) := by
  subst hn
  have h' := h
  obtain ⟨_, hr⟩ := h'
  rcases hr with ⟨hv, h0⟩ | ⟨g', cap, cur, hv, hb, hg, hn, hm, hsz, ht⟩
  · omega
  simp only [Value.slice.injEq, Option.some.injEq, Addr.mk.injEq, and_true, true_and] at hv
  obtain ⟨rfl, rfl⟩ := hv
  rw [Nat.mul_one] at ht hsz
  have hcell : ∀ t, t < hs.length → w.cell? ⟨g, 0 + t, none⟩ = some (.int .i64 (fn hs t)) := by
    intro t htl
    obtain ⟨b, o, cap', he, _, _, _, hc⟩ := Nats.pos h.nats (by omega)
    simp only [Value.slice.injEq, Option.some.injEq, Addr.mk.injEq, and_true, true_and] at he
    obtain ⟨⟨rfl, rfl⟩, rfl⟩ := he
    exact hc t htl
  have hfree : ∀ t, w.frozen? ⟨g, t, none⟩ = false := fun t => by simp [World.frozen?, hg]
  refine (Try.IntSlice_Swap g 0 c hs.length w (fn hs i) (fn hs j) i j hi hj (by omega) (hcell i hi) (hcell j hj) (hfree _) (hfree _)).mono ?_
  rintro e w' ⟨rfl, q, rfl⟩
  simp only [Nat.zero_add]
  refine ⟨trivial, ?_, ?_⟩
  · have hb1 : Blk w g cur 3 := hg
    have hb2 := (hb1.set (i := i) (.int .i64 (fn hs j))).set (i := j) (.int .i64 (fn hs i))
    unfold OwnN
    rw [swp_length]
    refine ⟨by simp [swp], .inr ⟨g, c, _, rfl, hb, hb2, hn, hm, by simp [hsz], ?_⟩⟩
    rw [Nat.mul_one]
    apply List.ext_getElem?
    intro k
    by_cases hk : k < hs.length
    · have hck : k < cur.size := by omega
      have h0 : cur[k]? = some (Z (fn hs k)) := by
        have := congrArg (·[k]?) ht
        simp only [List.getElem?_take_of_lt hk, Array.getElem?_toList] at this
        rw [this]
        simp [fn, hk]
      rw [List.getElem?_take_of_lt hk, Array.getElem?_toList, List.getElem?_map]
      by_cases h1 : k = j
      · subst h1
        rw [Array.getElem?_setIfInBounds_self_of_lt (by simp; omega)]
        simp [swp, hj]
      · rw [Array.getElem?_setIfInBounds_ne (fun e => h1 e.symm)]
        by_cases h2 : k = i
        · subst h2
          rw [Array.getElem?_setIfInBounds_self_of_lt hck]
          unfold swp
          rw [List.getElem?_set_ne (fun e => h1 e.symm)]
          simp [hi]
        · rw [Array.getElem?_setIfInBounds_ne (fun e => h2 e.symm), h0]
          unfold swp
          rw [List.getElem?_set_ne (fun e => h1 e.symm), List.getElem?_set_ne (fun e => h2 e.symm)]
          simp [fn, hk]
    · rw [List.getElem?_take_eq_none (by omega), List.getElem?_eq_none (by simp [swp]; omega)]
  · have g1 := grownBy_setCell w g i (.int .i64 (fn hs j))
    have g2 := grownBy_setCell (w.setCell ⟨g, i, none⟩ (.int .i64 (fn hs j))) g j (.int .i64 (fn hs i))
    have g3 := g1.trans g2
    exact ⟨g3.os, g3.tape, g3.output, g3.size, g3.block⟩

set_option maxRecDepth 100000 in
set_option maxHeartbeats 1000000 in
theorem up_any (base R n : Nat) (hs : List Nat) (g c : Nat) (j : Nat) (w : World) (hn : hs.length = n) (hb : Blk w R #[.slice (some ⟨g, 0, none⟩) n c] 89) (hown : OwnN base w (.slice (some ⟨g, 0, none⟩) n c) hs) (hR : R < base) (hj : j < n) (hup : UpOk (fn hs) n j) (hbig : n ≤ 2 ^ 40) :
    Calls Try.prog 50 #[.iface 91 (.pointer (some ⟨R, 0, none⟩)), .int .i64 j] w fun e w' => e = .returned (.tuple #[]) ∧ ∃ hs' : List Nat, hs'.Perm hs ∧ HeapF (fn hs') n ∧ OwnN base w' (.slice (some ⟨g, 0, none⟩) n c) hs' ∧ w.grownBy w' (some g) := by
  go_enter Try.func50, Try.ntmps50
  go_wp2_with fail
  go_loopw [1] (fun jv wr => ∃ (jn : Nat) (cur : List Nat), jv = .int .i64 jn ∧ jn < n ∧ UpOk (fn cur) n jn ∧ cur.Perm hs ∧ OwnN base wr (.slice (some ⟨g, 0, none⟩) n c) cur ∧ w.grownBy wr (some g)) (fun jv _ => (intOf jv).toNat)
  case atStart => exact ⟨j, hs, rfl, hj, hup, List.Perm.refl _, hown, World.grownBy.refl _ _⟩
  case round =>
    obtain ⟨jn, cur, rfl, hjl, hok, hperm, hcur, hgr⟩ := hrel
    have hne1 : some R ≠ some g := by have := (ownsRow_cells hcur (r := g) rfl).1; simp; omega
    have hbr := hb.kept hgr hne1
    obtain ⟨b0, b1⟩ := hbr.one
    have hcn : cur.length = n := by rw [hperm.length_eq, hn]
    by_cases h0 : jn = 0
    · subst h0
      go_wp2_with fail
      go_end0
      exact ⟨rfl, cur, hperm, up_done hok (.inl rfl), hcur, hgr⟩
    · have hpj : ((jn : Int) - 1) / 2 = (par jn : Int) := by unfold par; omega
      have hpl : par jn < jn := par_lt (by omega)
      have hne : (((jn : Int) - 1) / 2 == (jn : Int)) = false := by rw [beq_eq_false_iff_ne]; omega
      have hj1 : 0 ≤ (jn : Int) - 1 := by omega
      have HP := Lib.hid hpj
      have HCN := Lib.hid hcn
      have hml : (method 248 91 (.pointer (some ⟨R, 0, none⟩)) "Less").run Try.prog wr = .ok (88, .slice (some ⟨g, 0, none⟩) n c) wr := meth_field 247 R wr _ "Less" _ b0 mLess
      have hj0 : 0 < jn := by omega
      clear hpj h0 hcn
      go_wp2_with fail
      rw [HP.out]
      obtain ⟨wo, rfl⟩ : ∃ wo : World, wo = wr := ⟨_, rfl⟩
      refine (less_any base g n c cur jn (par jn) wo HCN.out hcur hjl (by omega) hbig).mono ?_
      rintro e w5 ⟨rfl, q, rfl⟩
      obtain ⟨w6, hw6⟩ : ∃ w6, wo.drewN q = w6 := ⟨_, rfl⟩
      have hcur6 : OwnN base w6 (.slice (some ⟨g, 0, none⟩) n c) cur := hw6 ▸ (show OwnN base (wo.drewN q) _ _ from hcur)
      have hgr6 : w.grownBy w6 (some g) := by rw [← hw6]; exact ⟨hgr.os, hgr.tape, hgr.output, hgr.size, hgr.block⟩
      rw [hw6]
      clear hw6 hml b0 b1 hcur
      have hb6 := hb.kept hgr6 hne1
      obtain ⟨b0, b1⟩ := hb6.one
      by_cases hlt : fn cur jn < fn cur (par jn)
      · have hd : decide (fn cur jn < fn cur (par jn)) = true := by simpa using hlt
        have hms : (method 248 91 (.pointer (some ⟨R, 0, none⟩)) "Swap").run Try.prog w6 = .ok (90, .slice (some ⟨g, 0, none⟩) n c) w6 := meth_field 247 R w6 _ "Swap" _ b0 mSwap
        go_wp2_with fail
        refine (swap_any base g n c cur (par jn) jn w6 HCN.out hcur6 (by omega) hjl hbig).mono ?_
        rintro e w7 ⟨rfl, hcur7, hg7⟩
        go_wp2_with fail
        refine ⟨⟨par jn, swp cur (par jn) jn, rfl, by omega, ?_, (swp_perm cur (par jn) jn (by rw [HCN.out]; omega) (by rw [HCN.out]; omega)).trans hperm, hcur7, hgr6.trans hg7⟩, by simp [intOf]; omega⟩
        rw [fn_swp cur (par jn) jn (by rw [HCN.out]; omega) (by rw [HCN.out]; omega)]
        exact up_step hok hj0 hlt
      · have hd : decide (fn cur jn < fn cur (par jn)) = false := by simpa using hlt
        go_wp2_with fail
        go_end0
        exact ⟨rfl, cur, hperm, up_done hok (.inr hlt), hcur6, hgr6⟩

/-! ### down -/
set_option maxRecDepth 100000 in
set_option maxHeartbeats 2000000 in
theorem down_any (base R N n : Nat) (hs : List Nat) (g c : Nat) (w : World) (hn : hs.length = N) (hnN : n < N) (hb : Blk w R #[.slice (some ⟨g, 0, none⟩) N c] 89) (hown : OwnN base w (.slice (some ⟨g, 0, none⟩) N c) hs) (hR : R < base) (hdn : DownOk (fn hs) n 0) (hbig : N ≤ 2 ^ 40) :
    Calls Try.prog 51 #[.iface 91 (.pointer (some ⟨R, 0, none⟩)), .int .i64 0, .int .i64 n] w fun e w' => ∃ b, e = .returned (.bool b) ∧ ∃ hs' : List Nat, hs'.Perm hs ∧ HeapF (fn hs') n ∧ (∀ k, n ≤ k → fn hs' k = fn hs k) ∧ OwnN base w' (.slice (some ⟨g, 0, none⟩) N c) hs' ∧ w.grownBy w' (some g) := by
  have hbn : n ≤ 2 ^ 40 := by omega
  go_enter Try.func51, Try.ntmps51
  go_wp2_with fail
  go_loopw [7] (fun iv wr => ∃ (i : Nat) (cur : List Nat), iv = .int .i64 i ∧ i ≤ n ∧ DownOk (fn cur) n i ∧ cur.Perm hs ∧ (∀ k, n ≤ k → fn cur k = fn hs k) ∧ OwnN base wr (.slice (some ⟨g, 0, none⟩) N c) cur ∧ w.grownBy wr (some g)) (fun iv _ => n - (intOf iv).toNat)
  case atStart => exact ⟨0, hs, rfl, Nat.zero_le _, hdn, List.Perm.refl _, fun _ _ => rfl, hown, World.grownBy.refl _ _⟩
  case round =>
    obtain ⟨i, cur, rfl, hin, hok, hperm, hrest, hcur, hgrw⟩ := hrel
    have hne1 : some R ≠ some g := by have := (ownsRow_cells hcur (r := g) rfl).1; simp; omega
    have hbr := hb.kept hgrw hne1
    obtain ⟨b0, b1⟩ := hbr.one
    have hcn : cur.length = N := by rw [hperm.length_eq, hn]
    have HCN := Lib.hid hcn
    obtain ⟨wo, rfl⟩ : ∃ wo : World, wo = wr := ⟨_, rfl⟩
    clear hcn
    by_cases hl : 2 * i + 1 < n
    · have t1 : decide ((n : Int) ≤ 2 * (i : Int) + 1) = false := by simp; omega
      have t2 : decide (2 * (i : Int) + 1 < 0) = false := by simp; omega
      by_cases hl2 : 2 * i + 2 < n
      · have t3 : decide (2 * (i : Int) + 1 + 1 < (n : Int)) = true := by simp; omega
        have HJ2 : Hid (2 * (i : Int) + 1 + 1 = ((2 * i + 2 : Nat) : Int)) := Lib.hid (by omega)
        have HJ1 : Hid (2 * (i : Int) + 1 = ((2 * i + 1 : Nat) : Int)) := Lib.hid (by omega)
        have hml : (method 248 91 (.pointer (some ⟨R, 0, none⟩)) "Less").run Try.prog wo = .ok (88, .slice (some ⟨g, 0, none⟩) N c) wo := meth_field 247 R wo _ "Less" _ b0 mLess
        go_wp2_with fail
        have hless := less_any base g N c cur (2 * i + 2) (2 * i + 1) wo HCN.out hcur (by omega) (by omega) hbig
        rw [← HJ2.out, ← HJ1.out] at hless
        refine hless.mono ?_
        clear hless
        rintro e w5 ⟨rfl, q5, rfl⟩
        obtain ⟨w6, hw6⟩ : ∃ w6, wo.drewN q5 = w6 := ⟨_, rfl⟩
        have hcur6 : OwnN base w6 (.slice (some ⟨g, 0, none⟩) N c) cur := hw6 ▸ (show OwnN base (wo.drewN q5) _ _ from hcur)
        have hgr6 : w.grownBy w6 (some g) := by rw [← hw6]; exact ⟨hgrw.os, hgrw.tape, hgrw.output, hgrw.size, hgrw.block⟩
        rw [hw6]
        clear hw6 hml b0 b1 hcur hgrw
        have hgrw := hgr6
        have hb6 := hb.kept hgr6 hne1
        obtain ⟨b0, b1⟩ := hb6.one
        by_cases h21 : fn cur (2 * i + 2) < fn cur (2 * i + 1)
        · have d21 : decide (fn cur (2 * i + 2) < fn cur (2 * i + 1)) = true := by simpa using h21
          have HJ : Hid (2 * (i : Int) + 1 + 1 = ((2 * i + 2 : Nat) : Int)) := Lib.hid (by omega)
          have hms : (method 248 91 (.pointer (some ⟨R, 0, none⟩)) "Less").run Try.prog w6 = .ok (88, .slice (some ⟨g, 0, none⟩) N c) w6 := meth_field 247 R w6 _ "Less" _ b0 mLess
          have hJ : Hid (∀ k, 0 < k → k < n → par k = i → fn cur (2 * i + 2) ≤ fn cur k) := Lib.hid (fun k k0 kn hk => by
              have : k = 2 * i + 1 ∨ k = 2 * i + 2 := by unfold par at hk; omega
              rcases this with rfl | rfl <;> omega)
          go_wp2_with fail
          rw [HJ.out]
          refine (less_any base g N c cur (2 * i + 2) i w6 HCN.out hcur6 (by omega) (by omega) hbig).mono ?_
          rintro e w8 ⟨rfl, q8, rfl⟩
          obtain ⟨w9, hw9⟩ : ∃ w9, (w6).drewN q8 = w9 := ⟨_, rfl⟩
          have hcur9 : OwnN base w9 (.slice (some ⟨g, 0, none⟩) N c) cur := hw9 ▸ (show OwnN base (World.drewN w6 q8) _ _ from hcur6)
          have hgr9 : w.grownBy w9 (some g) := by rw [← hw9]; exact ⟨hgrw.os, hgrw.tape, hgrw.output, hgrw.size, hgrw.block⟩
          rw [hw9]
          clear hw9 hms
          have hb9 := hb.kept hgr9 hne1
          obtain ⟨x0, x1⟩ := hb9.one
          by_cases hlt : fn cur (2 * i + 2) < fn cur i
          · have hd : decide (fn cur (2 * i + 2) < fn cur i) = true := by simpa using hlt
            have hmw : (method 248 91 (.pointer (some ⟨R, 0, none⟩)) "Swap").run Try.prog w9 = .ok (90, .slice (some ⟨g, 0, none⟩) N c) w9 := meth_field 247 R w9 _ "Swap" _ x0 mSwap
            go_wp2_with fail
            refine (swap_any base g N c cur i (2 * i + 2) w9 HCN.out hcur9 (by omega) (by omega) hbig).mono ?_
            rintro e w10 ⟨rfl, hcur10, hg10⟩
            go_wp2_with fail
            refine ⟨⟨2 * i + 2, swp cur i (2 * i + 2), rfl, by omega, ?_, (swp_perm cur i (2 * i + 2) (by rw [HCN.out]; omega) (by rw [HCN.out]; omega)).trans hperm, fun k hk => ?_, hcur10, hgr9.trans hg10⟩, by simp [intOf]; omega⟩
            · rw [fn_swp cur i (2 * i + 2) (by rw [HCN.out]; omega) (by rw [HCN.out]; omega)]
              exact down_step hok (by omega) (by omega) (by unfold par; omega) hJ.out hlt
            · rw [fn_swp cur i (2 * i + 2) (by rw [HCN.out]; omega) (by rw [HCN.out]; omega)]
              unfold swapF
              rw [if_neg (by omega), if_neg (by omega)]
              exact hrest k hk
          · have hd : decide (fn cur (2 * i + 2) < fn cur i) = false := by simpa using hlt
            go_wp2_with fail
            go_ret
            exact ⟨_, rfl, cur, hperm, down_done hok hJ.out hlt, hrest, hcur9, hgr9⟩
        · have d21 : decide (fn cur (2 * i + 2) < fn cur (2 * i + 1)) = false := by simpa using h21
          have HJ : Hid (2 * (i : Int) + 1 = ((2 * i + 1 : Nat) : Int)) := Lib.hid (by omega)
          have hms : (method 248 91 (.pointer (some ⟨R, 0, none⟩)) "Less").run Try.prog w6 = .ok (88, .slice (some ⟨g, 0, none⟩) N c) w6 := meth_field 247 R w6 _ "Less" _ b0 mLess
          have hJ : Hid (∀ k, 0 < k → k < n → par k = i → fn cur (2 * i + 1) ≤ fn cur k) := Lib.hid (fun k k0 kn hk => by
              have : k = 2 * i + 1 ∨ k = 2 * i + 2 := by unfold par at hk; omega
              rcases this with rfl | rfl <;> omega)
          go_wp2_with fail
          rw [HJ.out]
          refine (less_any base g N c cur (2 * i + 1) i w6 HCN.out hcur6 (by omega) (by omega) hbig).mono ?_
          rintro e w8 ⟨rfl, q8, rfl⟩
          obtain ⟨w9, hw9⟩ : ∃ w9, (w6).drewN q8 = w9 := ⟨_, rfl⟩
          have hcur9 : OwnN base w9 (.slice (some ⟨g, 0, none⟩) N c) cur := hw9 ▸ (show OwnN base (World.drewN w6 q8) _ _ from hcur6)
          have hgr9 : w.grownBy w9 (some g) := by rw [← hw9]; exact ⟨hgrw.os, hgrw.tape, hgrw.output, hgrw.size, hgrw.block⟩
          rw [hw9]
          clear hw9 hms
          have hb9 := hb.kept hgr9 hne1
          obtain ⟨x0, x1⟩ := hb9.one
          by_cases hlt : fn cur (2 * i + 1) < fn cur i
          · have hd : decide (fn cur (2 * i + 1) < fn cur i) = true := by simpa using hlt
            have hmw : (method 248 91 (.pointer (some ⟨R, 0, none⟩)) "Swap").run Try.prog w9 = .ok (90, .slice (some ⟨g, 0, none⟩) N c) w9 := meth_field 247 R w9 _ "Swap" _ x0 mSwap
            go_wp2_with fail
            refine (swap_any base g N c cur i (2 * i + 1) w9 HCN.out hcur9 (by omega) (by omega) hbig).mono ?_
            rintro e w10 ⟨rfl, hcur10, hg10⟩
            go_wp2_with fail
            refine ⟨⟨2 * i + 1, swp cur i (2 * i + 1), rfl, by omega, ?_, (swp_perm cur i (2 * i + 1) (by rw [HCN.out]; omega) (by rw [HCN.out]; omega)).trans hperm, fun k hk => ?_, hcur10, hgr9.trans hg10⟩, by simp [intOf]; omega⟩
            · rw [fn_swp cur i (2 * i + 1) (by rw [HCN.out]; omega) (by rw [HCN.out]; omega)]
              exact down_step hok (by omega) (by omega) (by unfold par; omega) hJ.out hlt
            · rw [fn_swp cur i (2 * i + 1) (by rw [HCN.out]; omega) (by rw [HCN.out]; omega)]
              unfold swapF
              rw [if_neg (by omega), if_neg (by omega)]
              exact hrest k hk
          · have hd : decide (fn cur (2 * i + 1) < fn cur i) = false := by simpa using hlt
            go_wp2_with fail
            go_ret
            exact ⟨_, rfl, cur, hperm, down_done hok hJ.out hlt, hrest, hcur9, hgr9⟩
      · have t3 : decide (2 * (i : Int) + 1 + 1 < (n : Int)) = false := by simp; omega
        have HJ : Hid (2 * (i : Int) + 1 = ((2 * i + 1 : Nat) : Int)) := Lib.hid (by omega)
        have hms : (method 248 91 (.pointer (some ⟨R, 0, none⟩)) "Less").run Try.prog wo = .ok (88, .slice (some ⟨g, 0, none⟩) N c) wo := meth_field 247 R wo _ "Less" _ b0 mLess
        have hJ : Hid (∀ k, 0 < k → k < n → par k = i → fn cur (2 * i + 1) ≤ fn cur k) := Lib.hid (fun k k0 kn hk => by
            have : k = 2 * i + 1 := by unfold par at hk; omega
            rw [this]; exact Nat.le_refl _)
        go_wp2_with fail
        rw [HJ.out]
        refine (less_any base g N c cur (2 * i + 1) i wo HCN.out hcur (by omega) (by omega) hbig).mono ?_
        rintro e w8 ⟨rfl, q8, rfl⟩
        obtain ⟨w9, hw9⟩ : ∃ w9, (wo).drewN q8 = w9 := ⟨_, rfl⟩
        have hcur9 : OwnN base w9 (.slice (some ⟨g, 0, none⟩) N c) cur := hw9 ▸ (show OwnN base (World.drewN wo q8) _ _ from hcur)
        have hgr9 : w.grownBy w9 (some g) := by rw [← hw9]; exact ⟨hgrw.os, hgrw.tape, hgrw.output, hgrw.size, hgrw.block⟩
        rw [hw9]
        clear hw9 hms
        have hb9 := hb.kept hgr9 hne1
        obtain ⟨x0, x1⟩ := hb9.one
        by_cases hlt : fn cur (2 * i + 1) < fn cur i
        · have hd : decide (fn cur (2 * i + 1) < fn cur i) = true := by simpa using hlt
          have hmw : (method 248 91 (.pointer (some ⟨R, 0, none⟩)) "Swap").run Try.prog w9 = .ok (90, .slice (some ⟨g, 0, none⟩) N c) w9 := meth_field 247 R w9 _ "Swap" _ x0 mSwap
          go_wp2_with fail
          refine (swap_any base g N c cur i (2 * i + 1) w9 HCN.out hcur9 (by omega) (by omega) hbig).mono ?_
          rintro e w10 ⟨rfl, hcur10, hg10⟩
          go_wp2_with fail
          refine ⟨⟨2 * i + 1, swp cur i (2 * i + 1), rfl, by omega, ?_, (swp_perm cur i (2 * i + 1) (by rw [HCN.out]; omega) (by rw [HCN.out]; omega)).trans hperm, fun k hk => ?_, hcur10, hgr9.trans hg10⟩, by simp [intOf]; omega⟩
          · rw [fn_swp cur i (2 * i + 1) (by rw [HCN.out]; omega) (by rw [HCN.out]; omega)]
            exact down_step hok (by omega) (by omega) (by unfold par; omega) hJ.out hlt
          · rw [fn_swp cur i (2 * i + 1) (by rw [HCN.out]; omega) (by rw [HCN.out]; omega)]
            unfold swapF
            rw [if_neg (by omega), if_neg (by omega)]
            exact hrest k hk
        · have hd : decide (fn cur (2 * i + 1) < fn cur i) = false := by simpa using hlt
          go_wp2_with fail
          go_ret
          exact ⟨_, rfl, cur, hperm, down_done hok hJ.out hlt, hrest, hcur9, hgr9⟩
    · have t1 : decide ((n : Int) ≤ 2 * (i : Int) + 1) = true := by simp; omega
      go_wp2_with fail
      go_ret
      exact ⟨_, rfl, cur, hperm, down_leaf hok (by omega), hrest, hcur, hgrw⟩
end Go.Proofs.Ythbnbjigmgoldaa
