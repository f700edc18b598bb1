/- The examples of the chapter, which the statements of layer 37 look at first. -/
import Derived.Test.YtkdlimigepkepaaGreatJ9s
namespace Go.Proofs.YtkdlimigepkepaaGreat
open Go.RowKit
set_option linter.unusedVariables false

theorem Byts.two (w : World) (x y : Int) (t : TypeId) (b c : UInt8) (h : x = (b.toNat : Int)) (h' : y = (c.toNat : Int)) : Byts (w.heap.size + 1) (w.alloc (.cells #[.int .u8 x, .int .u8 y] t)) (.slice (some ⟨w.heap.size, 0, none⟩) 2 2) [b, c] := by
  subst h; subst h'
  exact Byts.mk_cells (l := [b, c]) (Nat.le_refl _) (by simp [maxLen]) (by omega) (fun i hi => by
    simp only [List.length_cons, List.length_nil] at hi
    match i, hi with
    | 0, _ => simp
    | 1, _ => simp)

/-- The contracts, at a world where the results are named. -/
theorem open_at {s : St} {L : Lg} {ps : List (List UInt8)} {c : Int} (hr : openS s = (L, ps, c)) (K : Nat) (v : Value) (w : World) (hv : Byts K w v s.data) (hK : K ≤ w.heap.size) (hp : s.power ≤ 2 ^ 63 - 1) :
    Calls Tryz.prog 17 #[.agg #[v, .int .i64 s.power]] w fun e w' => ∃ a cap pa pcap,
      e = .returned (.tuple #[.agg #[.slice a L.st.data.length cap, .int .i64 L.st.power, .int .i64 L.count, .bool L.down], .slice pa ps.length pcap, .int .i64 c]) ∧
      OwnB w.heap.size w' (.slice a L.st.data.length cap) L.st.data ∧ OwnTs w.heap.size w' (.slice pa ps.length pcap) ps ∧ Below w.heap.size w w' := by
  refine (open_any K v s w hv hK hp).mono ?_
  rintro e w' ⟨v', pv, vs, rfl, ho, ht, hn, hb⟩
  rw [hr] at ho ht ⊢
  have h1 := ho.byts
  have hn' : ((pv :: vs).filterMap Value.ownBlock).Nodup := by
    rw [filterMap_cons_toList] at hn
    exact (List.nodup_append.1 hn).2.1
  have h2 := (ht.texts hn').txts
  have h3 := ht.texts hn'
  obtain ⟨a, cap, rfl, _⟩ := id h1
  obtain ⟨pa, pcap, rfl, _⟩ := id h2
  exact ⟨_, _, _, _, rfl, ho, h3, hb⟩

theorem add_at {l L : Lg} {pl : List UInt8} {c : Int} (hr : addS l pl = (L, c)) (K : Nat) (v vp : Value) (w : World) (hv : Byts K w v l.st.data) (hvp : Byts K w vp pl) (hK : K ≤ w.heap.size) (hp : l.st.power ≤ 2 ^ 63 - 1) :
    Calls Tryz.prog 30 #[.agg #[v, .int .i64 l.st.power, .int .i64 l.count, .bool l.down], vp] w fun e w' => ∃ a cap,
      e = .returned (.tuple #[.agg #[.slice a L.st.data.length cap, .int .i64 L.st.power, .int .i64 L.count, .bool L.down], .int .i64 c]) ∧ OwnB w.heap.size w' (.slice a L.st.data.length cap) L.st.data ∧ Below w.heap.size w w' := by
  refine (add_any K v vp l pl w hv hvp hK hp).mono ?_
  rintro e w' ⟨v', rfl, ho, hb⟩
  rw [hr] at ho ⊢
  have h1 := ho.byts
  obtain ⟨a, cap, rfl, _⟩ := id h1
  exact ⟨_, _, rfl, ho, hb⟩

theorem restore_at {l : Lg} {s : St} {p c : Int} (hr : restoreS l p = (s, c)) (K : Nat) (v : Value) (w : World) (hv : Byts K w v l.st.data) (hK : K ≤ w.heap.size) :
    Calls Tryz.prog 32 #[.agg #[v, .int .i64 l.st.power, .int .i64 l.count, .bool l.down], .int .i64 p] w fun e w' => ∃ a cap,
      e = .returned (.tuple #[.agg #[.slice a s.data.length cap, .int .i64 s.power], .int .i64 c]) ∧ OwnB w.heap.size w' (.slice a s.data.length cap) s.data ∧ Below w.heap.size w w' := by
  refine (restore_any K v l p w hv hK).mono ?_
  rintro e w' ⟨v', rfl, ho, hb⟩
  rw [hr] at ho ⊢
  have h1 := ho.byts
  obtain ⟨a, cap, rfl, _⟩ := id h1
  exact ⟨_, _, rfl, ho, hb⟩

theorem form_at (K : Nat) (v : Value) (p : List UInt8) (n : Nat) (n' : Int) (w : World) (hv : Byts K w v p) (hK : K ≤ w.heap.size) (hn' : n' = n) (h1 : 1 ≤ n) (h2 : n ≤ 65536) (h3 : p.length ≤ 4096) :
    Calls Tryz.prog 19 #[.int .i64 n', v] w fun e w' => ∃ a cap, e = .returned (.tuple #[.slice a (formOf n p).length cap, .int .i64 0]) ∧ OwnB w.heap.size w' (.slice a (formOf n p).length cap) (formOf n p) ∧ Below w.heap.size w w' := by
  refine (form_yes K v p n n' w hv hK hn' h1 h2 h3).mono ?_
  rintro e w' ⟨v', rfl, ho, hb⟩
  have h1 := ho.byts
  obtain ⟨a, cap, rfl, _⟩ := id h1
  exact ⟨_, _, rfl, ho, hb⟩

def exD : List UInt8 := [1, 0, 0, 0, 2, 0, 65, 66, 226, 3, 0, 0]
def exE : List UInt8 := [1, 0, 0, 0, 2, 0, 65, 66, 226, 3, 0, 0, 2, 0, 0, 0, 1, 0, 67, 200]
theorem ex_form : formOf 1 [65, 66] = exD := by kernel_rfl
theorem exDl : exD.length = 12 := rfl
theorem exDa : exD.toArray = #[1, 0, 0, 0, 2, 0, 65, 66, 226, 3, 0, 0] := rfl
theorem ex1 : openS ⟨[], 20⟩ = (⟨⟨[], 20⟩, 0, false⟩, [], 0) := by kernel_rfl
theorem ex2 : addS ⟨⟨[], 20⟩, 0, false⟩ [65, 66] = (⟨⟨exD, 8⟩, 1, false⟩, 0) := by kernel_rfl
theorem ex3 : addS ⟨⟨exD, 8⟩, 1, false⟩ [67] = (⟨⟨exD ++ (formOf 2 [67]).take 8, 0⟩, 1, true⟩, 370) := by kernel_rfl
theorem ex3l : (exD ++ (formOf 2 [67]).take 8).length = 20 := by kernel_rfl
theorem ex4 : restoreS ⟨⟨exD ++ (formOf 2 [67]).take 8, 0⟩, 1, true⟩ 1 = (⟨exD ++ (formOf 2 [67]).take 8, 1⟩, 0) := by kernel_rfl
theorem ex5 : openS ⟨exD ++ (formOf 2 [67]).take 8, 1⟩ = (⟨⟨exD, 0⟩, 1, false⟩, [[65, 66]], 0) := by kernel_rfl

/-- A box of four cells that is written anew. -/
theorem put4 {w : World} {B t : Nat} {a b c d : Value} (h : Blk w B #[a, b, c, d] t) (x y z u : Value) :
    ∃ w', (((w.setCell ⟨B, 0, none⟩ x).setCell ⟨B, 1, none⟩ y).setCell ⟨B, 2, none⟩ z).setCell ⟨B, 3, none⟩ u = w' ∧ Blk w' B #[x, y, z, u] t ∧ Below B w w' ∧ Above (B + 1) w w' ∧ w'.heap.size = w.heap.size := by
  refine ⟨_, rfl, ?_, ?_, ?_, by simp⟩
  · exact (((h.set (i := 0) x).set (i := 1) y).set (i := 2) z).set (i := 3) u
  · exact (((((Below.refl B w).setCell (Nat.le_refl _) _).setCell (Nat.le_refl _) _).setCell (Nat.le_refl _) _).setCell (Nat.le_refl _) _)
  · exact ((((Above.refl _ w).set (by omega) _ _).set (by omega) _ _).set (by omega) _ _).set (by omega) _ _
theorem put2 {w : World} {B t : Nat} {a b : Value} (h : Blk w B #[a, b] t) (x y : Value) :
    ∃ w', (w.setCell ⟨B, 0, none⟩ x).setCell ⟨B, 1, none⟩ y = w' ∧ Blk w' B #[x, y] t ∧ Below B w w' ∧ Above (B + 1) w w' ∧ w'.heap.size = w.heap.size := by
  refine ⟨_, rfl, ?_, ?_, ?_, by simp⟩
  · exact (h.set (i := 0) x).set (i := 1) y
  · exact (((Below.refl B w).setCell (Nat.le_refl _) _).setCell (Nat.le_refl _) _)
  · exact ((Above.refl _ w).set (by omega) _ _).set (by omega) _ _

set_option maxRecDepth 100000 in
set_option maxHeartbeats 1000000 in
theorem awake_any (w : World) : Calls Tryz.prog 8 #[] w fun e w' => e = .returned (.bool true) ∧ Below w.heap.size w w' := by
  go_enter Tryz.func8, Tryz.ntmps8
  go_wp2_with fail
  refine (form_at _ _ [65, 66] 1 _ _ (Byts.two w 65 66 5 65 66 rfl rfl) (by simp) rfl (by omega) (by omega) (by simp)).mono ?_
  rintro e w1 ⟨a1, c1, rfl, hx1, hb1⟩
  rw [ex_form, exDl] at hx1 ⊢
  have hq1 : Below w.heap.size w w1 := ((Below.refl _ w).alloc (Nat.le_refl _) _).trans (hb1.mono (by simp))
  have hx1 := hx1.byts
  clear hb1
  go_wp2_with fail
  refine (open_at ex1 0 _ w1 (Byts.nil none 0 (Nat.zero_le _) (fun _ => rfl)) (Nat.zero_le _) (by decide)).mono ?_
  rintro e w2 ⟨a2, c2, pa2, pc2, rfl, hx2, hp2, hb2⟩
  have hy2 := hx1.below hb2 hb2.size
  have hq2 : Below w.heap.size w w2 := hq1.trans (hb2.mono hq1.size)
  clear hb2 hx1 hq1 hp2
  go_wp2_with fail
  have hk3 : Below w2.heap.size w2 ((w2.alloc (Obj.cells #[Value.slice a2 0 c2, .int .i64 20, .int .i64 0, .bool false] 32)).alloc (Obj.cells #[.int .u8 65, .int .u8 66] 5)) := ((Below.refl _ w2).alloc (Nat.le_refl _) _).alloc (by simp) _
  refine (add_at ex2 (w2.heap.size + 2) _ _ _ ((hx2.byts).below hk3 (by omega)) (by have := Byts.two (w2.alloc (Obj.cells #[Value.slice a2 0 c2, .int .i64 20, .int .i64 0, .bool false] 32)) 65 66 5 65 66 rfl rfl; rw [World.size_alloc] at this; exact this) (by simp) (by decide)).mono ?_
  rintro e w3 ⟨a3, c3, rfl, hx3, hb3⟩
  simp only [exDl] at hx3 ⊢
  have hx3 := hx3.mono (show w2.heap.size + 1 ≤ _ by simp)
  have q3 : Blk w3 w2.heap.size #[Value.slice a2 0 c2, .int .i64 20, .int .i64 0, .bool false] 32 := ((Blk.new w2 _ _).alloc _).below hb3 (by simp; omega)
  have hs3 : w2.heap.size + 2 ≤ w3.heap.size := by simpa using hb3.size
  have hs2 := hq2.size
  have hy3 := (hy2.below hk3 (Nat.le_refl _)).below (hb3.mono (by simp; omega)) (Nat.le_refl _)
  have hq3 : Below w.heap.size w w3 := (hq2.trans (hk3.mono hs2)).trans (hb3.mono (by simp; omega))
  obtain ⟨B, hB⟩ : ∃ B, w2.heap.size = B := ⟨_, rfl⟩
  rw [hB] at hx3 q3 hs3 hs2 hy3 ⊢
  clear hk3 hb3 hx2 hy2 hq2 hB
  obtain ⟨d0, d1, d2, d3, g0, g1, g2, g3⟩ := q3.four
  go_wp2_with fail
  obtain ⟨w4, hw4, q4, hb4, ha4, hs4⟩ := put4 q3 (Value.slice a3 12 c3) (Value.int IntKind.i64 8) (Value.int IntKind.i64 1) (Value.bool false)
  rw [hw4]
  rw [← hs4]
  have hx4 := hx3.above ha4 (Nat.le_refl _)
  have hy4 := hy3.below hb4 (Nat.le_refl _)
  have hq4 := hq3.trans (hb4.mono hs2)
  rw [← hs4] at hs3
  clear hw4 q3 hx3 hy3 hq3 d0 d1 d2 d3 g0 g1 g2 g3 hb4 ha4 hs4
  have hk5 : Below w4.heap.size w4 (w4.alloc (Obj.cells #[.int .u8 67] 5)) := (Below.refl _ w4).alloc (Nat.le_refl _) _
  refine (add_at ex3 (w4.heap.size + 1) _ _ _ (hx4.byts.below hk5 (by omega)) (Byts.one w4 67 5 67 rfl) (by simp) (by decide)).mono ?_
  rintro e w5 ⟨a5, c5, rfl, hx5, hb5⟩
  have hx5 := hx5.mono (show B + 1 ≤ _ by simp; omega)
  have q5 := (q4.alloc (.cells #[.int .u8 67] 5)).below hb5 (by simp; omega)
  have hs5 : B + 2 ≤ w5.heap.size := by have := hb5.size; simp at this; omega
  have hy5 := (hy4.below (hk5.mono (by omega)) (Nat.le_refl _)).below (hb5.mono (by simp; omega)) (Nat.le_refl _)
  have hq5 : Below w.heap.size w w5 := (hq4.trans (hk5.mono (by omega))).trans (hb5.mono (by simp; omega))
  clear hx4 hk5 hy4 hq4 hb5 q4 hs3
  rw [ex3l] at hx5 ⊢
  obtain ⟨d0, d1, d2, d3, g0, g1, g2, g3⟩ := q5.four
  go_wp2_with fail
  obtain ⟨w6, hw6, q6, hb6, ha6, hs6⟩ := put4 q5 (Value.slice a5 20 c5) (Value.int IntKind.i64 0) (Value.int IntKind.i64 1) (Value.bool true)
  rw [hw6]
  have hx6 := hx5.above ha6 (Nat.le_refl _)
  have hy6 := hy5.below hb6 (Nat.le_refl _)
  have hq6 := hq5.trans (hb6.mono hs2)
  rw [← hs6] at hs5
  clear hw6 q5 hx5 hy5 hq5 d0 d1 d2 d3 g0 g1 g2 g3 hb6 ha6 hs6
  refine (restore_at ex4 w6.heap.size _ w6 hx6.byts (Nat.le_refl _)).mono ?_
  rintro e w7 ⟨a7, c7, rfl, hx7, hb7⟩
  rw [ex3l] at hx7 ⊢
  have hx7 := hx7.mono (show B + 1 ≤ _ by omega)
  have q7 := q6.below hb7 (by omega)
  have hs7 : B + 2 ≤ w7.heap.size := by have := hb7.size; omega
  have hy7 := hy6.below (hb7.mono (by omega)) (Nat.le_refl _)
  have hq7 : Below w.heap.size w w7 := hq6.trans (hb7.mono (by omega))
  clear hx6 hy6 hq6 q6 hb7 hs5
  go_wp2_with fail
  have hk8 : Below w7.heap.size w7 (w7.alloc (Obj.cells #[.slice a7 20 c7, .int .i64 1] 28)) := (Below.refl _ w7).alloc (Nat.le_refl _) _
  refine (open_at ex5 (w7.heap.size + 1) _ _ (by have := hx7.byts.below hk8 (Nat.le_succ _); rw [← ex3l] at this; rw [← ex3l]; exact this) (by simp) (by decide)).mono ?_
  rintro e w9 ⟨a9, c9, pa9, pc9, rfl, hx9, hp9, hb9⟩
  simp only [exDl] at hx9 ⊢
  have q9 := (q7.alloc (.cells #[.slice a7 20 c7, .int .i64 1] 28)).below hb9 (by simp; omega)
  have hs9 : B + 2 ≤ w9.heap.size := by have := hb9.size; simp at this; omega
  have hy9 := (hy7.below (hk8.mono (by omega)) (Nat.le_refl _)).below (hb9.mono (by simp; omega)) (Nat.le_refl _)
  have hq9 : Below w.heap.size w w9 := (hq7.trans (hk8.mono (by omega))).trans (hb9.mono (by simp; omega))
  clear hk8 hx7 hy7 q7 hq7 hb9 hx9
  obtain ⟨d0, d1, d2, d3, g0, g1, g2, g3⟩ := q9.four
  have hz9 : B < w9.heap.size := by omega
  have hp9 := hp9.txts
  obtain ⟨pb, po, cap, us, hpe, _, _, _, hpb, hus, hcell⟩ := hp9.cases.resolve_left (by rintro ⟨_, _, _, h, _⟩; cases h)
  have hc0 := hcell 0 (by simp)
  obtain ⟨hc1, hby⟩ := hc0
  simp only [Value.slice.injEq, List.length_cons, List.length_nil, Nat.zero_add] at hpe
  obtain ⟨rfl, _, rfl⟩ := hpe
  obtain ⟨x, hx⟩ : ∃ x, us[0]?.getD undef = x := ⟨_, rfl⟩
  rw [hx] at hc1 hby
  rw [Nat.add_zero] at hc1
  clear hx hus hcell hp9
  have hk10 : Below w9.heap.size w9 (w9.alloc (Obj.cells #[.slice a9 12 c9, .int .i64 0, .int .i64 1, .bool false] 32)) := (Below.refl _ w9).alloc (Nat.le_refl _) _
  have s1 := conv_str (hy9.below (hk10.mono (by omega)) (Nat.le_refl _))
  rw [exDa] at s1
  have s2 := conv_str (hby.below hk10 (Nat.le_refl _))
  have hq10 : Below w.heap.size w (w9.alloc (Obj.cells #[.slice a9 12 c9, .int .i64 0, .int .i64 1, .bool false] 32)) := hq9.trans (hk10.mono (by omega))
  have hc10 := (hk10.cell (p := ⟨pb, po, none⟩) hpb).trans hc1
  clear hc1
  go_wp2_with fail
  go_ret
  exact ⟨rfl, hq10⟩
end Go.Proofs.YtkdlimigepkepaaGreat
