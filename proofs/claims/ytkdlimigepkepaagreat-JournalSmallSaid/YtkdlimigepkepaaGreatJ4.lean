/- Package journal: own, and Scan. No conditions beyond the readings of the arguments. -/
import Derived.Test.YtkdlimigepkepaaGreatJ3
import Derived.Test.YtkdlimigepkepaaGreatTxt
import Derived.OrdersHeld
import Derived.Sort.QuietIn
namespace Go.Proofs.YtkdlimigepkepaaGreat
open Go.RowKit
set_option linter.unusedVariables false
attribute [local go_sem] Oper.semAt_some

set_option maxHeartbeats 400000 in
theorem own_any (K : Nat) (v : Value) (l : List UInt8) (w : World) (h : Byts K w v l) (hl : l.length ≤ 2 ^ 46) :
    Calls Tryz.prog 37 #[v] w fun e w' => ∃ v', e = .returned v' ∧ OwnB w.heap.size w' v' l ∧ w.grownBy w' none := by
  have hn := OwnB.nil w.heap.size w
  have hb : ([] : List UInt8).length + l.length ≤ 2 ^ 46 := by rw [List.length_nil]; omega
  go_enter Tryz.func37, Tryz.ntmps37
  go_wp2_with (at_builtin; refine wpList_append_B rfl (.const (.slice none 0 0)) (.tmp 3) rfl rfl rfl hn h hb (Nat.le_refl _) ?_; intro v' w1 hown hgrow hat)
  go_ret
  exact ⟨v', rfl, hown, hgrow⟩

/-- Between two rounds of Scan's loop. -/
def ScanI (B0 : Nat) (w : World) (ps : List (List UInt8)) (W : World) : Prop := ∃ lv, Box W B0 45 lv ∧ OwnTs (B0 + 2) W lv ps ∧ Below B0 w W ∧ B0 + 2 ≤ W.heap.size

theorem ScanI.kept {B0 : Nat} {w W W' : World} {ps : List (List UInt8)} {row : Option Nat} (h : ScanI B0 w ps W) (hg : W.grownBy W' row) (hr : ∀ k, row = some k → B0 < k) (ha : Apart (B0 + 2) W row) : ScanI B0 w ps W' := by
  obtain ⟨lv, h1, h2, h3, h4⟩ := h
  exact ⟨lv, h1.kept hg (fun e => by have := hr _ e.symm; omega), h2.keptA hg ha, h3.trans (below_of_grown hg (fun k e => by have := hr k e; omega) (by have := h1.lt; omega)), Nat.le_trans h4 hg.size⟩

set_option maxRecDepth 100000 in
set_option maxHeartbeats 1000000 in
theorem scan_any (v : Value) (l : List UInt8) (w : World) (h : Byts w.heap.size w v l) :
    Calls Tryz.prog 20 #[v] w fun e w' => ∃ v' ps, IsScan l ps ∧ e = .returned (.tuple #[v', .int .i64 (endOf ps)]) ∧ OwnTs w.heap.size w' v' ps ∧ Below w.heap.size w w' := by
  obtain ⟨va, cap, rfl, hl1, hl2, _⟩ := id h
  have HL := Lib.hid hl1; have HM := Lib.hid hl2
  clear hl1 hl2
  refine callsIn_wide.1 (callsIn_of_wp_marks (n := 5) Tryz.func20 rfl trivial ?_)
  simp only [Tryz.ntmps20, List.size_toArray, List.length_cons, List.length_nil, Nat.reduceAdd, Nat.reduceSub, Array.replicate_succ, Array.replicate_zero, List.push_toArray, List.append_toArray, List.nil_append, List.cons_append]
  gi_wp2
  have hsz : ((w.alloc (Obj.cells #[Value.slice none 0 0] 45)).alloc (Obj.cells #[Value.slice va l.length cap, Value.int IntKind.i64 0, Value.int IntKind.i64 0, Value.int IntKind.i64 0] 79)).heap.size = w.heap.size + 2 := by simp
  obtain ⟨W0, hW0⟩ : ∃ W0, (w.alloc (Obj.cells #[Value.slice none 0 0] 45)).alloc (Obj.cells #[Value.slice va l.length cap, Value.int IntKind.i64 0, Value.int IntKind.i64 0, Value.int IntKind.i64 0] 79) = W0 := ⟨_, rfl⟩
  have hbel : Below w.heap.size w W0 := by rw [← hW0]; exact ((Below.refl _ _).alloc (Nat.le_refl _) _).alloc (by simp) _
  have hbox : Box W0 w.heap.size 45 (.slice none 0 0) := by
    rw [← hW0]; exact (Below.heap_alloc _ _ _ (by simp)).trans (World.alloc_heap_new w _)
  have hrd : Rd W0 (w.heap.size + 1) (.slice va l.length cap) 0 0 0 := by
    rw [← hW0]; have := World.alloc_heap_new (w.alloc (Obj.cells #[Value.slice none 0 0] 45)) (Obj.cells #[Value.slice va l.length cap, Value.int IntKind.i64 0, Value.int IntKind.i64 0, Value.int IntKind.i64 0] 79); rwa [World.size_alloc] at this
  rw [hW0] at hsz ⊢
  obtain ⟨B0, hB0⟩ : ∃ B0, w.heap.size = B0 := ⟨_, rfl⟩
  rw [hB0] at h hsz hbel hbox hrd ⊢
  clear hW0
  refine range_law (gf := 41) (fi := #[.pointer (some ⟨B0 + 1, 0, none⟩)]) (lb := #[]) rfl (enters_of Tryz.func41 (by kernel_rfl) rfl) (records_iter B0 (B0 + 1) (.slice va l.length cap) l (by omega)) (fun _ => rfl)
    (fun pre W => ScanI B0 w (pre.map (·.2)) W) (fun _ _ _ => False)
    (fun pre x a1 W => (ScanI B0 w (pre.map (·.2)) W ∧ Byts B0 W x.1 x.2 ∧ pre.length < 65536 ∧ x.2.length ≤ 4096) ∧ a1 = { tmps := #[.slice va l.length cap, undef, .slice none 0 0, .int .i64 0, .pointer (some ⟨B0, 0, none⟩), .pointer (some ⟨B0 + 1, 0, none⟩), x.1, .slice va l.length cap, .agg #[.slice va l.length cap, .int .i64 0],
      .agg #[.slice va l.length cap, .int .i64 0, .int .i64 0, .int .i64 0], .pointer (some ⟨B0 + 1, 0, none⟩), .pointer (some ⟨B0 + 1, 0, none⟩), .func (.func 41) #[.pointer (some ⟨B0 + 1, 0, none⟩)] #[], x.1, undef, undef, undef, undef, undef, undef, undef, undef, undef, undef], defers := [] })
    ?hSt ?hI ?hIx ?hA ?hS ?hSp ?hISt ?hIxSt ?hKt ?hKb ?h0 ?hPre ?hassign ?hbody ?hdone ?hstop
  case hSt => exact fun A B _ hg => KeepsFrom.of_grownBy hg (fun j e => by cases e; omega)
  case hI => exact fun s W l o o' hi hle hl ho => hi.kept (grownBy_putObj' W l o') (fun k e => by cases e; omega) (Apart.other hl ho)
  case hIx => exact fun c s W l o o' hi _ _ _ => hi
  case hA =>
    rintro s x a1 W l o o' ⟨⟨hi, hb, hx⟩, ha⟩ hle hl ho
    exact ⟨⟨hi.kept (grownBy_putObj' W l o') (fun k e => by cases e; omega) (Apart.other hl ho), hb.below (below_of_grown (grownBy_putObj' W l o') (fun k e => by cases e; omega) (by obtain ⟨_, h1, _⟩ := hi; have := h1.lt; omega)) (Nat.le_refl _), hx⟩, ha⟩
  case hS =>
    rintro s W l' o o' ⟨h1, a, h2⟩ hle hl ho
    exact ⟨h1, a, (World.putObj_heap_other (by omega)).trans h2⟩
  case hSp =>
    rintro s W l' o o' ⟨a, h2⟩ hle hl ho
    exact ⟨a, (World.putObj_heap_other (by omega)).trans h2⟩
  case hISt => exact fun s A B hi hg => hi.kept hg (fun k e => by cases e; omega) (Apart.lt (by omega))
  case hIxSt => exact fun c s A B hi _ => hi
  case hKt => exact fun A B C h1 h2 => ⟨h2.1.trans h1.1, h1.2.trans h2.2⟩
  case hKb =>
    intro W l' o o' hle hl ho
    exact ⟨World.putObj_heap_other (by omega), below_of_grown (grownBy_putObj' W l' o') (fun k e => by cases e; omega) (by have := (Array.getElem?_eq_some_iff.1 hl).1; omega)⟩
  case h0 =>
    intro o o'
    exact ⟨_, (hbox.kept (World.grownBy_alloc W0 o none) (by simp)).kept (World.grownBy_alloc _ o' none) (by simp), OwnTs.nil _ _, (hbel.alloc (by omega) o).alloc (by simp; omega) o', by simp; omega⟩
  case hPre =>
    intro o o'
    refine ⟨?_, h.below ((hbel.alloc (by omega) o).alloc (by simp; omega) o') (Nat.le_refl _)⟩
    exact (Below.heap_alloc _ _ _ (by simp; omega)).trans ((Below.heap_alloc _ _ _ (by omega)).trans hrd)
  case hstop => exact fun D c pre W _ _ hi _ => hi.elim
  case hassign =>
    intro i pre x W hi hx hlt
    gi_wp2
    exact ⟨KeepsFrom.refl _ _, ⟨rfl, Below.refl _ _⟩, ⟨hi, hx⟩, trivial⟩
  case hbody =>
    rintro i pre x a1 W ⟨⟨hi, hb, hpl, hxl⟩, rfl⟩
    gi_wp2
    obtain ⟨lv, hbx, hts, hbl, hsz2⟩ := hi
    refine region_round (fun W' => Box W' B0 45 lv) [5] (by kernel_rfl) (by kernel_rfl) (by rintro ⟨_, _, h⟩; exact h) ?_
    refine wpAnyD_take (i := 0) (v := lv) rfl (by kernel_rfl) (by kernel_rfl) (by kernel_rfl) (by kernel_rfl) (by kernel_rfl) (fun _ _ _ h => h) (.inl ⟨rfl, fun W' hS => ?_⟩) hbx ?_
    · obtain ⟨f1, f2⟩ := hS.facts
      go_simp
    refine wpAnyD_take (i := 1) (v := x.1) rfl (by kernel_rfl) (by kernel_rfl) (by kernel_rfl) (by kernel_rfl) (by kernel_rfl) (fun _ _ _ h => h) (.inl ⟨rfl, fun W' hS => ?_⟩) hbx ?_
    · go_simp
    refine wpAnyD_one (i := 2) (by kernel_rfl) rfl rfl ?_
    go_simp
    refine (own_any B0 x.1 x.2 W.drew hb (by omega)).mono ?_
    rintro e w1 ⟨pv, rfl, hp, hg'⟩
    have hg : W.grownBy w1 none := ⟨hg'.os, hg'.tape, hg'.output, hg'.size, hg'.block⟩
    have hp : OwnB W.heap.size w1 pv _ := hp
    have hbx1 := hbx.kept hg (by simp)
    have hbl1 : Below B0 w w1 := hbl.trans (below_of_grown hg (fun k e => nomatch e) (by have := hbx.lt; omega))
    obtain ⟨qa, qn, qc, rfl⟩ := ownBlock_of_OwnB hp
    refine ⟨hbx1, ?_⟩
    have hlt1 := hbx1.lt
    refine wpAnyD_one (i := 3) (by kernel_rfl) rfl rfl ?_
    go_simp
    have hbx2 := hbx1.kept (World.grownBy_alloc w1 (.cells #[.slice qa qn qc] 22) none) (by simp)
    have hbl2 := hbl1.alloc (by omega) (.cells #[.slice qa qn qc] 22)
    refine ⟨hbx2, ?_⟩
    refine wpAnyD_one (i := 4) (by kernel_rfl) rfl rfl ?_
    refine wp_append_T (.tmp 14) (.tmp 17) rfl W w1 rfl rfl hts hg hp hsz2 (by rw [List.length_map]; omega) ?_
    intro v' w2 hts2 hg2
    have hne : some B0 ≠ lv.ownBlock := fun he => by have := hts.base_le he.symm; omega
    have hbx3 := hbx2.kept hg2 hne
    refine ⟨fun _ => hbx3, ?_⟩
    obtain ⟨f1, f2⟩ := hbx3.facts
    obtain ⟨ra, rn, rc, rfl⟩ := hts2.form
    refine wpAnyD_one (i := 5) (by kernel_rfl) rfl rfl ?_
    go_simp
    refine wpAnyD_done (by kernel_rfl) ?_ _
    have hR1 : w1.heap[B0 + 1]? = W.heap[B0 + 1]? := hg.block _ (by omega) (by simp)
    have hR2 : w2.heap[B0 + 1]? = W.heap[B0 + 1]? := (hg2.block _ (by simp; have := hg.size; omega) (fun he => by have := hts.base_le he.symm; omega)).trans ((Below.heap_alloc _ _ _ (by have := hg.size; omega)).trans hR1)
    have hk1 : KeepsFrom W0.heap.size W w1 := KeepsFrom.of_grownBy hg (fun j e => nomatch e)
    have hcl := hts.keptA hg (Apart.no _ _)
    have hk2 : KeepsOthers (w1.alloc (.cells #[.slice qa qn qc] 22)) w2 := KeepsOthers.of_grownBy hg2 (fun j o he ho => by
      obtain ⟨o', h1, h2⟩ := hcl.cells he
      have h3 := (Below.heap_alloc w1 (.cells #[.slice qa qn qc] 22) j (Array.getElem?_eq_some_iff.1 h1).1).trans h1
      rw [h3] at ho; cases ho; exact h2)
    have hb2 : Below B0 w1 w2 := ((Below.refl B0 w1).alloc (by omega) _).trans (below_of_grown hg2 (fun k e => by have := hts.base_le e; omega) (by simp; omega))
    have hbw : Below B0 W w1 := below_of_grown hg (fun k e => nomatch e) (by omega)
    refine ⟨hk1.trans ((((KeepsOthers.alloc _ _).trans hk2).trans (KeepsOthers.setCell _ _ _)).from _), ⟨?_, (hbw.trans hb2).setCell (Nat.le_refl _) _⟩, ?_⟩
    · exact (Below.heap_setCell _ _ _ _ (by simp)).trans hR2
    · refine ⟨_, hbx3.set _, ?_, ((hbl.trans hbw).trans hb2).setCell (Nat.le_refl _) _, ?_⟩
      · rw [List.map_append]
        exact hts2.keptA (grownBy_setCell w2 B0 0 _) (Apart.lt (by omega))
      · have h1 := hg2.size; have h2 := hg.size
        simp only [World.size_alloc] at h1
        simp [World.setCell]; omega
  case hdone =>
    rintro D xs W hD ⟨hs, a, hr⟩ hi hd
    obtain ⟨lv, hbx, hts, hbl, hsz2⟩ := hi
    obtain ⟨f1, f2⟩ := hbx.facts
    obtain ⟨c0, c1, c2, c3, d1, d2, d3⟩ := hr.facts
    gi_wp2
    gi_quiet (fail)
    gi_wp2
    have hd' : (W.drewN nq).heap[D]? = some (.deferred (some [])) := hd
    have hg : W.grownBy ((W.drewN nq).putObj D (.deferred none)) (some D) := ⟨rfl, rfl, rfl, by simp [World.drewN], fun k _ hk => World.putObj_heap_other (fun e => hk (by rw [e]))⟩
    refine ⟨by simp, .inl ⟨_, _, rfl, run_takeDeferred hd', ?_⟩⟩
    refine ⟨_, results_tmp2 rfl _ _ _, lv, xs.map (·.2), hs, rfl, ?_, ?_⟩
    · rw [hB0]; exact (hts.keptA hg (Apart.other hd rfl)).mono (by omega)
    · rw [hB0]; exact hbl.trans (below_of_grown hg (fun k e => by cases e; omega) (by omega))
end Go.Proofs.YtkdlimigepkepaaGreat
