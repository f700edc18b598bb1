/- The reference of layer 37: contracts where the results are named; plain, sameLog of the law. No conditions beyond sizes. -/
import Derived.Test.YtkdlimigepkepaaGreatQ7
import Derived.Test.YtkdlimigepkepaaGreatOwnL
import Derived.Test.YtkdlimigepkepaaGreatLW0
namespace Go.Proofs.YtkdlimigepkepaaGreat
open Go.RowKit
set_option linter.unusedVariables false

theorem restore_ref_at {l : Lg} {s : St} {p c : Int} (hr : restoreS l p = (s, c)) (K : Nat) (v : Value) (w : World) (hv : Byts K w v l.st.data) (hK : K ≤ w.heap.size) (hl21 : l.st.data.length ≤ 2 ^ 21) :
    Calls Tryz.prog 33 #[.agg #[v, .int .i64 l.st.power, .int .i64 l.count, .bool l.down], .int .i64 p] w fun e w' => ∃ a cap,
      e = .returned (.tuple #[.agg #[.slice a s.data.length cap, .int .i64 s.power], .int .i64 c]) ∧ OwnB w.heap.size w' (.slice a s.data.length cap) s.data ∧ Below w.heap.size w w' := by
  refine (restore_ref K v l p w hv hK hl21).mono ?_
  rintro e w' ⟨v', rfl, ho, hb⟩
  rw [hr] at ho ⊢
  have h1 := ho.byts
  obtain ⟨a, cap, rfl, _⟩ := id h1
  exact ⟨_, _, rfl, ho, hb⟩

theorem add_ref_at {l L : Lg} {pl : List UInt8} {c : Int} (hr : addS l pl = (L, c)) (K : Nat) (v vp : Value) (w : World) (hv : Byts K w v l.st.data) (hvp : Byts K w vp pl) (hK : K ≤ w.heap.size) (hp : l.st.power ≤ 2 ^ 63 - 1) (hl21 : l.st.data.length ≤ 2 ^ 21) :
    Calls Tryz.prog 31 #[.agg #[v, .int .i64 l.st.power, .int .i64 l.count, .bool l.down], vp] w fun e w' => ∃ a cap,
      e = .returned (.tuple #[.agg #[.slice a L.st.data.length cap, .int .i64 L.st.power, .int .i64 L.count, .bool L.down], .int .i64 c]) ∧ OwnB w.heap.size w' (.slice a L.st.data.length cap) L.st.data ∧ Below w.heap.size w w' := by
  refine (add_ref K v vp l pl w hv hvp hK hp hl21).mono ?_
  rintro e w' ⟨v', rfl, ho, hb⟩
  rw [hr] at ho ⊢
  have h1 := ho.byts
  obtain ⟨a, cap, rfl, _⟩ := id h1
  exact ⟨_, _, rfl, ho, hb⟩

theorem open_ref_at {s : St} {L : Lg} {ps : List (List UInt8)} {c : Int} (hr : openS s = (L, ps, c)) (K : Nat) (v : Value) (w : World) (hv : Byts K w v s.data) (hK : K ≤ w.heap.size) (hp : s.power ≤ 2 ^ 63 - 1) (hl21 : s.data.length ≤ 2 ^ 21) :
    Calls Tryz.prog 18 #[.agg #[v, .int .i64 s.power]] w fun e w' => ∃ a cap pa pcap,
      e = .returned (.tuple #[.agg #[.slice a L.st.data.length cap, .int .i64 L.st.power, .int .i64 L.count, .bool L.down], .slice pa ps.length pcap, .int .i64 c]) ∧
      OwnB w.heap.size w' (.slice a L.st.data.length cap) L.st.data ∧ OwnTs w.heap.size w' (.slice pa ps.length pcap) ps ∧ Below w.heap.size w w' := by
  refine (open_ref K v s w hv hK hp hl21).mono ?_
  rintro e w' ⟨v', pv, vs, rfl, ho, ht, hn, hb⟩
  rw [hr] at ho ht ⊢
  have h1 := ho.byts
  have hn' : ((pv :: vs).filterMap Value.ownBlock).Nodup := by
    rw [filterMap_cons_toList] at hn
    exact (List.nodup_append.1 hn).2.1
  have h2 := (ht.texts hn').txts
  have h3 := ht.texts hn'
  obtain ⟨a, cap, rfl, _⟩ := id h1
  obtain ⟨pa, pcap, rfl, _⟩ := id h2
  exact ⟨_, _, _, _, rfl, ho, h3, hb⟩

def S1 (b : Nat) (cs : Array Value) (t : TypeId) (W : World) : Prop := Blk W b cs t

set_option maxRecDepth 100000 in
set_option maxHeartbeats 1000000 in
theorem plain_any (va : Option Addr) (n cap : Nat) (p c : Int) (d : Bool) (w : World) :
    Calls Tryz.prog 24 #[.agg #[.slice va n cap, .int .i64 p, .int .i64 c, .bool d]] w fun e w' => e = .returned (.agg #[.slice va n cap, .int .i64 p, .int .i64 c, .bool d]) ∧ Below w.heap.size w w' := by
  go_enter Tryz.func24, Tryz.ntmps24
  go_upto_region 1 with fail
  have q0 : Blk ((w.alloc (.cells #[.slice va n cap, .int .i64 p, .int .i64 c, .bool d] 32)).alloc (.cells #[.slice none 0 0, .int .i64 0, .int .i64 0, .bool false] 49)) w.heap.size #[.slice va n cap, .int .i64 p, .int .i64 c, .bool d] 32 := (Blk.new w _ _).alloc _
  have r0 : Blk ((w.alloc (.cells #[.slice va n cap, .int .i64 p, .int .i64 c, .bool d] 32)).alloc (.cells #[.slice none 0 0, .int .i64 0, .int .i64 0, .bool false] 49)) (w.heap.size + 1) #[.slice none 0 0, .int .i64 0, .int .i64 0, .bool false] 49 := by
    have := Blk.new (w.alloc (.cells #[.slice va n cap, .int .i64 p, .int .i64 c, .bool d] 32)) #[.slice none 0 0, .int .i64 0, .int .i64 0, .bool false] 49
    rw [World.size_alloc] at this
    exact this
  have b0 : Below w.heap.size w ((w.alloc (.cells #[.slice va n cap, .int .i64 p, .int .i64 c, .bool d] 32)).alloc (.cells #[.slice none 0 0, .int .i64 0, .int .i64 0, .bool false] 49)) := ((Below.refl _ w).alloc (Nat.le_refl _) _).alloc (by simp) _
  refine region_plain (S1 w.heap.size #[.slice va n cap, .int .i64 p, .int .i64 c, .bool d] 32) [] (by kernel_rfl) ?_
  obtain ⟨W, hW⟩ : ∃ X, ((w.alloc (.cells #[.slice va n cap, .int .i64 p, .int .i64 c, .bool d] 32)).alloc (.cells #[.slice none 0 0, .int .i64 0, .int .i64 0, .bool false] 49)) = X := ⟨_, rfl⟩
  rw [hW] at q0 r0 b0 ⊢
  clear hW
  obtain ⟨b, hb⟩ : ∃ X, w.heap.size = X := ⟨_, rfl⟩
  have HB := Lib.hid hb
  rw [hb] at q0 r0 b0 ⊢
  clear hb
  have s0 : S1 b #[.slice va n cap, .int .i64 p, .int .i64 c, .bool d] 32 W.drew := q0
  refine wpAnyD_take (i := 0) (v := .pointer (some ⟨b, 0, none⟩)) rfl (by kernel_rfl) (by kernel_rfl) (by kernel_rfl) (by kernel_rfl) (by kernel_rfl) (fun _ _ _ h => h) (.inl ⟨by kernel_rfl, fun W' hS => by go_simp⟩) s0 ?_
  refine wpAnyD_take (i := 1) (v := .agg #[.slice va n cap, .int .i64 p]) rfl (by kernel_rfl) (by kernel_rfl) (by kernel_rfl) (by kernel_rfl) (by kernel_rfl) (fun _ _ _ h => h) (.inl ⟨by kernel_rfl, fun W' hS => by obtain ⟨c0, c1, c2, c3, f0, f1, f2, f3⟩ := Blk.four hS; go_simp⟩) s0 ?_
  refine wpAnyD_take (i := 3) (v := .pointer (some ⟨b, 2, none⟩)) rfl (by kernel_rfl) (by kernel_rfl) (by kernel_rfl) (by kernel_rfl) (by kernel_rfl) (fun _ _ _ h => h) (.inl ⟨by kernel_rfl, fun W' hS => by go_simp⟩) s0 ?_
  refine wpAnyD_take (i := 4) (v := .int .i64 c) rfl (by kernel_rfl) (by kernel_rfl) (by kernel_rfl) (by kernel_rfl) (by kernel_rfl) (fun _ _ _ h => h) (.inl ⟨by kernel_rfl, fun W' hS => by obtain ⟨c0, c1, c2, c3, f0, f1, f2, f3⟩ := Blk.four hS; go_simp⟩) s0 ?_
  refine wpAnyD_take (i := 5) (v := .pointer (some ⟨b, 3, none⟩)) rfl (by kernel_rfl) (by kernel_rfl) (by kernel_rfl) (by kernel_rfl) (by kernel_rfl) (fun _ _ _ h => h) (.inl ⟨by kernel_rfl, fun W' hS => by go_simp⟩) s0 ?_
  refine wpAnyD_take (i := 6) (v := .bool d) rfl (by kernel_rfl) (by kernel_rfl) (by kernel_rfl) (by kernel_rfl) (by kernel_rfl) (fun _ _ _ h => h) (.inl ⟨by kernel_rfl, fun W' hS => by obtain ⟨c0, c1, c2, c3, f0, f1, f2, f3⟩ := Blk.four hS; go_simp⟩) s0 ?_
  refine wpAnyD_one (i := 2) (by kernel_rfl) rfl (by kernel_rfl) ?_
  go_simp
  refine (store_any va n cap p W.drew).mono ?_
  rintro e w1 ⟨rfl, hb1⟩
  have hb1 : Below W.heap.size W w1 := (Below.refl _ W).drew.trans hb1
  have q1 := q0.below hb1 q0.lt
  have r1 := r0.below hb1 r0.lt
  have hlt := r0.lt
  have hs1 := hb1.size
  have b1 : Below b w w1 := b0.trans (hb1.mono (by omega))
  refine ⟨q1, ?_⟩
  refine wpAnyD_one (i := 7) (by kernel_rfl) rfl (by kernel_rfl) ?_
  go_simp
  refine ⟨q1, ?_⟩
  obtain ⟨c0, c1, c2, c3, f0, f1, f2, f3⟩ := r1.four
  refine wpAnyD_one (i := 8) (by kernel_rfl) rfl (by kernel_rfl) ?_
  go_simp
  obtain ⟨W2, hW2, r2, hp2, _⟩ := put4 r1 (.slice va n cap) (.int .i64 p) (.int .i64 c) (.bool d)
  rw [hW2]
  refine ⟨q1.below hp2 (by omega), ?_⟩
  refine wpAnyD_done (by kernel_rfl) ?_ _
  obtain ⟨c0, c1, c2, c3, f0, f1, f2, f3⟩ := r2.four
  go_wp2_with fail
  refine bodyPost_ret (v := .agg #[.slice va n cap, .int .i64 p, .int .i64 c, .bool d]) (by simp [results, Tryz.results24, go_sem, c0, c1, c2, c3]) rfl ⟨rfl, by rw [HB.out]; exact b1.trans (hp2.mono (by omega))⟩

theorem sameStore_same (K : Nat) (v u : Value) (s : St) (w : World) (hv : Byts K w v s.data) (hu : Byts K w u s.data) (hK : K ≤ w.heap.size) :
    Calls Tryz.prog 22 #[.agg #[v, .int .i64 s.power], .agg #[u, .int .i64 s.power]] w fun e w' => e = .returned (.bool true) ∧ Below w.heap.size w w' := by
  have := sameStore_any K v u s s w hv hu hK
  simpa using this

set_option maxRecDepth 100000 in
set_option maxHeartbeats 1000000 in
theorem sameLog_same (K : Nat) (v u : Value) (L : Lg) (w : World) (hv : Byts K w v L.st.data) (hu : Byts K w u L.st.data) (hK : K ≤ w.heap.size) :
    Calls Tryz.prog 23 #[.agg #[v, .int .i64 L.st.power, .int .i64 L.count, .bool L.down], .agg #[u, .int .i64 L.st.power, .int .i64 L.count, .bool L.down]] w fun e w' => e = .returned (.bool true) ∧ Below w.heap.size w w' := by
  obtain ⟨⟨d, p⟩, c, dn⟩ := L
  simp only at hv hu ⊢
  obtain ⟨va, cv, rfl, _⟩ := id hv
  obtain ⟨ua, cu, rfl, _⟩ := id hu
  have hk : Below w.heap.size w ((w.alloc (Obj.cells #[.slice va d.length cv, .int .i64 p, .int .i64 c, .bool dn] 49)).alloc (Obj.cells #[.slice ua d.length cu, .int .i64 p, .int .i64 c, .bool dn] 49)) := ((Below.refl _ w).alloc (Nat.le_refl _) _).alloc (by simp) _
  have HV := Lib.hid (hv.below (hk.mono hK) (Nat.le_refl _)); have HU := Lib.hid (hu.below (hk.mono hK) (Nat.le_refl _))
  have q0 : Blk ((w.alloc (Obj.cells #[.slice va d.length cv, .int .i64 p, .int .i64 c, .bool dn] 49)).alloc (Obj.cells #[.slice ua d.length cu, .int .i64 p, .int .i64 c, .bool dn] 49)) w.heap.size #[.slice va d.length cv, .int .i64 p, .int .i64 c, .bool dn] 49 := (Blk.new w _ _).alloc _
  have r0 : Blk ((w.alloc (Obj.cells #[.slice va d.length cv, .int .i64 p, .int .i64 c, .bool dn] 49)).alloc (Obj.cells #[.slice ua d.length cu, .int .i64 p, .int .i64 c, .bool dn] 49)) (w.heap.size + 1) #[.slice ua d.length cu, .int .i64 p, .int .i64 c, .bool dn] 49 := by
    have := Blk.new (w.alloc (Obj.cells #[.slice va d.length cv, .int .i64 p, .int .i64 c, .bool dn] 49)) #[.slice ua d.length cu, .int .i64 p, .int .i64 c, .bool dn] 49
    rw [World.size_alloc] at this
    exact this
  clear hv hu
  go_enter Tryz.func23, Tryz.ntmps23
  go_wp2_with fail
  refine (sameStore_same _ _ _ ⟨d, p⟩ _ HV.out HU.out (by simp; omega)).mono ?_
  rintro e w1 ⟨rfl, hb1⟩
  have q1 := q0.below hb1 q0.lt
  have r1 := r0.below hb1 r0.lt
  obtain ⟨c0, c1, c2, c3, f0, f1, f2, f3⟩ := q1.four
  obtain ⟨d0, d1, d2, d3, g0, g1, g2, g3⟩ := r1.four
  have hb : Below w.heap.size w w1 := hk.trans (hb1.mono (by simp; omega))
  clear hk hb1 q0 r0
  go_wp2_with fail
  go_ret
  exact ⟨by first | rfl | simp, hb⟩
end Go.Proofs.YtkdlimigepkepaaGreat
