/- Package journal: Valid, and Form. No conditions beyond the readings of the arguments. -/
import Derived.Test.YtkdlimigepkepaaGreatTxt
import Derived.Test.YtkdlimigepkepaaGreatJ1
namespace Go.Proofs.YtkdlimigepkepaaGreat
open Go.RowKit
set_option linter.unusedVariables false

/-- A store is valid. -/
def validB (n : Nat) (p : Int) : Bool := decide (n ≤ 1048576) && decide (-1 ≤ p)

set_option maxHeartbeats 400000 in
theorem valid_any (a : Option Addr) (n cap : Nat) (p : Int) (w : World) (hm : n ≤ maxLen) :
    Calls Tryz.prog 26 #[.agg #[.slice a n cap, .int .i64 p]] w fun e w' => e = .returned (.bool (validB n p)) ∧ Below w.heap.size w w' := by
  unfold maxLen at hm
  by_cases h1 : n ≤ 1048576
  · have h1' : decide ((n : Int) ≤ (1048576 : Int)) = true := by simp; omega
    have hv : Hid (validB n p = decide (-1 ≤ p)) := by unfold Hid validB; simp [h1]
    clear h1
    go_enter Tryz.func26, Tryz.ntmps26
    go_wp2
    go_ret
    exact ⟨by rw [hv.out]; rfl, (Below.refl _ _).alloc (Nat.le_refl _) _⟩
  · have h1' : decide ((n : Int) ≤ (1048576 : Int)) = false := by simp; omega
    have hv : Hid (validB n p = false) := by unfold Hid validB; simp [h1]
    clear h1
    go_enter Tryz.func26, Tryz.ntmps26
    go_wp2
    go_ret
    exact ⟨by rw [hv.out]; rfl, (Below.refl _ _).alloc (Nat.le_refl _) _⟩

/-- The bytes of a number, the least significant one first. -/
def le : Nat → Nat → List UInt8
  | 0, _ => []
  | k + 1, n => UInt8.ofNat n :: le k (n / 256)
theorem le_length (k n : Nat) : (le k n).length = k := by induction k generalizing n with
  | zero => rfl
  | succ k ih => simp [le, ih]

theorem Byts.one (w : World) (x : Int) (t : TypeId) (b : UInt8) (h : x = (b.toNat : Int)) : Byts (w.heap.size + 1) (w.alloc (.cells #[.int .u8 x] t)) (.slice (some ⟨w.heap.size, 0, none⟩) 1 1) [b] := by
  subst h
  exact Byts.mk_cells (l := [b]) (Nat.le_refl _) (by simp [maxLen]) (by omega) (fun i hi => by
    obtain rfl : i = 0 := by simpa using hi
    simp)

theorem u8_of (n : Nat) : ((n : Int) % 256) = ((UInt8.ofNat n).toNat : Int) := by
  rw [UInt8.toNat_ofNat']; omega

set_option maxRecDepth 100000 in
set_option maxHeartbeats 1000000 in
theorem put_any (D base k n : Nat) (dv : Value) (l : List UInt8) (w : World) (hk : k ≤ 4) (hn : n ≤ 2 ^ 32 - 1) (hbx : Box w D 22 dv) (ho : OwnB base w dv l) (hD : D < base) (hb : base ≤ w.heap.size) (hl : l.length ≤ 2 ^ 30) (k' n' : Int) (hk' : k' = k) (hn' : n' = n) :
    Calls Tryz.prog 39 #[.int .u32 n', .int .i64 k', .pointer (some ⟨D, 0, none⟩)] w fun e w' => e = .returned (.tuple #[]) ∧ ∃ dv', Box w' D 22 dv' ∧ OwnB base w' dv' (l ++ le k n) ∧ Below D w w' ∧ base ≤ w'.heap.size := by
  subst hk' hn'
  go_enter Tryz.func39, Tryz.ntmps39
  go_wp2
  go_loopw [0, 1] (fun n1 k1 wr => ∃ (j m : Nat) (dv : Value) (cur : List UInt8), j ≤ k ∧ m ≤ 2 ^ 32 - 1 ∧ n1 = .int .u32 m ∧ k1 = .int .i64 j ∧ Box wr D 22 dv ∧ OwnB base wr dv cur ∧ cur ++ le j m = l ++ le k n ∧ Below D w wr ∧ base ≤ wr.heap.size)
    (fun _ k1 _ => (intOf k1).toNat)
  case atStart => exact ⟨k, n, dv, l, Nat.le_refl _, hn, rfl, rfl, hbx, ho, rfl, Below.refl _ _, hb⟩
  case round =>
    obtain ⟨j, m, dv, cur, hj, hm, rfl, rfl, hbx, ho, hcur, hbl, hsz⟩ := hrel
    obtain ⟨f1, f2⟩ := hbx.facts
    have HC := Lib.hid hcur; clear hcur
    have hcl : cur.length + j = l.length + k := by
      have := congrArg List.length HC.out
      simpa [le_length] using this
    have hb1 : cur.length + [UInt8.ofNat m].length ≤ 2 ^ 46 := by rw [List.length_singleton]; omega
    have hone := Byts.one wr ((m : Int) % 256) 5 (UInt8.ofNat m) (u8_of m)
    have hob : ∀ r, dv.ownBlock = some r → base ≤ r := fun r hr => (ownsRow_cells ho hr).1
    have HOB := Lib.hid hob; clear hob
    have HCL := Lib.hid hcl; clear hcl
    by_cases h0 : 0 < j
    · go_wp2_with (at_builtin; refine wpList_append_B rfl (.tmp 9) (.tmp 12) rfl rfl rfl (ho.alloc _) hone hb1 (by simp; omega) ?_; intro dv1 w1 hown1 hg1 hat1; have hbx1 := (hbx.kept (World.grownBy_alloc wr _ none) (by simp)).kept hg1 (fun he => by have := HOB.out _ he.symm; omega); obtain ⟨f11, f12⟩ := hbx1.facts; obtain ⟨ra, rn, rc, rfl⟩ := ownBlock_of_OwnB hown1)
      have hle : le j m = UInt8.ofNat m :: le (j - 1) (m / 256) := by
        obtain ⟨i, rfl⟩ : ∃ i, j = i + 1 := ⟨j - 1, by omega⟩
        rfl
      refine ⟨⟨j - 1, m / 256, .slice ra rn rc, cur ++ [UInt8.ofNat m], by omega, by omega, ?_, ?_, hbx1.set _, ?_, ?_, ?_, ?_⟩, ?_⟩
      · rw [show ((m : Int) / 256) = ((m / 256 : Nat) : Int) by omega]
      · rw [show ((j : Int) - 1) = ((j - 1 : Nat) : Int) by omega]
      · exact hown1.keptA (grownBy_setCell w1 D 0 _) (Apart.lt hD)
      · rw [← HC.out, hle, List.append_assoc]; rfl
      · exact (((hbl.alloc (by omega) _).trans (below_of_grown hg1 (fun r hr => by have := HOB.out r hr; omega) (by simp; omega)))).setCell (Nat.le_refl _) _
      · have := hg1.size
        simp only [World.size_alloc] at this
        simp [World.setCell]; omega
      · simp [intOf]; omega
    · obtain rfl : j = 0 := by omega
      go_wp2_with fail
      go_end0
      exact ⟨rfl, dv, hbx, by have := HC.out; rw [le, List.append_nil] at this; rw [← this]; exact ho, hbl, hsz⟩
/-- The arguments of Form are valid. -/
def formB (n : Int) (p : List UInt8) : Bool := decide (1 ≤ n) && decide (n ≤ 65536) && decide (p.length ≤ 4096)
def formHead (n : Nat) (p : List UInt8) : List UInt8 := le 4 n ++ le 2 p.length ++ p
/-- The bytes of a record. -/
def formOf (n : Nat) (p : List UInt8) : List UInt8 := formHead n p ++ le 4 (chk (formHead n p) % 4294967296)

set_option maxRecDepth 100000 in
set_option maxHeartbeats 1000000 in
theorem form_yes (K : Nat) (v : Value) (p : List UInt8) (n : Nat) (n' : Int) (w : World) (hv : Byts K w v p) (hK : K ≤ w.heap.size) (hn' : n' = n) (h1 : 1 ≤ n) (h2 : n ≤ 65536) (h3 : p.length ≤ 4096) :
    Calls Tryz.prog 19 #[.int .i64 n', v] w fun e w' => ∃ v', e = .returned (.tuple #[v', .int .i64 0]) ∧ OwnB w.heap.size w' v' (formOf n p) ∧ Below w.heap.size w w' := by
  subst hn'
  obtain ⟨va, cap, rfl, hl1, hl2, hz, _⟩ := id hv
  have t1 : decide ((n : Int) < (1 : Int)) = false := by simp; omega
  have t2 : decide ((65536 : Int) < (n : Int)) = false := by simp; omega
  have t3 : decide ((4096 : Int) < (p.length : Int)) = false := by simp; omega
  have hn0 : (n : Int) ≤ 2 ^ 17 := by omega
  have hp0 : (p.length : Int) ≤ 2 ^ 13 := by omega
  have H2 := Lib.hid h2; have H3 := Lib.hid h3; have HL := Lib.hid hl1; have HM := Lib.hid hl2
  clear h2 h3 hl1 hl2
  go_enter Tryz.func19, Tryz.ntmps19
  go_wp2_with fail
  obtain ⟨B0, hB0⟩ : ∃ B0, w.heap.size = B0 := ⟨_, rfl⟩
  obtain ⟨W, hW⟩ : ∃ W, w.alloc (Obj.cells #[Value.slice none 0 0] 22) = W := ⟨_, rfl⟩
  have hbx : Box W B0 22 (.slice none 0 0) := by rw [← hW, ← hB0]; exact World.alloc_heap_new w _
  have hbl : Below B0 w W := by rw [← hW]; exact (Below.refl _ _).alloc (by omega) _
  have hsz : W.heap.size = B0 + 1 := by rw [← hW, ← hB0]; simp
  rw [hW, hB0]
  rw [hB0] at hK
  have HB := Lib.hid hB0; clear hB0 hW
  refine (put_any B0 (B0 + 1) 4 n _ [] W (by omega) (by omega) hbx (OwnB.nil _ _) (by omega) (by omega) (by simp) _ _ rfl rfl).mono ?_
  rintro e w1 ⟨rfl, dv1, hbx1, ho1, hbl1, hsz1⟩
  rw [List.nil_append] at ho1
  have hq1 : Below B0 w w1 := hbl.trans hbl1
  clear hbx hbl hsz hbl1
  obtain ⟨f1, f2⟩ := hbx1.facts
  go_wp2_with fail
  refine (put_any B0 (B0 + 1) 2 p.length _ _ w1 (by omega) (by have := H3.out; omega) hbx1 ho1 (by omega) (by omega) (by rw [le_length]; omega) _ _ rfl rfl).mono ?_
  clear f1 f2
  rintro e w2 ⟨rfl, dv2, hbx2, ho2, hbl2, hsz2⟩
  have hq2 : Below B0 w w2 := hq1.trans hbl2
  clear hbx1 ho1 hq1 hbl2 hsz1
  obtain ⟨f1, f2⟩ := hbx2.facts
  have hv2 := hv.below (hq2.mono hK) (Nat.le_refl _)
  have hb2 : (le 4 n ++ le 2 p.length).length + p.length ≤ 2 ^ 46 := by rw [List.length_append, le_length, le_length]; have := H3.out; omega
  have hob : ∀ r, dv2.ownBlock = some r → B0 + 1 ≤ r := fun r hr => (ownsRow_cells ho2 hr).1
  have HOB := Lib.hid hob; clear hob
  have HV := Lib.hid hv; clear hv
  go_wp2_with (at_builtin; refine wpList_append_B rfl (.tmp 29) (.tmp 30) rfl rfl rfl ho2 hv2 hb2 hsz2 ?_; intro dv3 w3 hown3 hg3 hat3; have hbx3 := hbx2.kept hg3 (fun he => by have := HOB.out _ he.symm; omega); obtain ⟨f11, f12⟩ := hbx3.facts; obtain ⟨ra, rn, rc, rfl⟩ := ownBlock_of_OwnB hown3)
  have hhd : Hid (le 4 n ++ le 2 p.length ++ p = formHead n p) := rfl
  rw [hhd.out] at hown3
  have hq3 : Below B0 w w3 := hq2.trans (below_of_grown hg3 (fun r hr => by have := HOB.out r hr; omega) (by omega))
  have hsz3 : B0 + 1 ≤ w3.heap.size := Nat.le_trans hsz2 hg3.size
  clear hbx2 ho2 hq2 hsz2 hg3 hat3 f1 f2 f11 f12 hv2
  obtain ⟨w4, hw4⟩ : ∃ w4, w3.setCell ⟨B0, 0, none⟩ (Value.slice ra rn rc) = w4 := ⟨_, rfl⟩
  have hbx4 : Box w4 B0 22 (.slice ra rn rc) := by rw [← hw4]; exact hbx3.set _
  have ho4 : OwnB (B0 + 1) w4 (.slice ra rn rc) (formHead n p) := by rw [← hw4]; exact hown3.keptA (grownBy_setCell w3 B0 0 _) (Apart.lt (by omega))
  have hq4 : Below B0 w w4 := by rw [← hw4]; exact hq3.setCell (Nat.le_refl _) _
  have hsz4 : B0 + 1 ≤ w4.heap.size := by rw [← hw4]; simpa [World.setCell] using hsz3
  rw [hw4]
  clear hw4 hbx3 hown3 hq3 hsz3
  refine (checksum_any _ _ _ w4 ho4.byts).mono ?_
  rintro e w' ⟨rfl, rfl⟩
  have hlen : (formHead n p).length ≤ 2 ^ 20 := by unfold formHead; rw [List.length_append, List.length_append, le_length, le_length]; have := H3.out; omega
  go_wp2_with fail
  refine (put_any B0 (B0 + 1) 4 (chk (formHead n p) % 4294967296) _ _ w4 (by omega) (by omega) hbx4 ho4 (by omega) hsz4 (by omega) _ _ rfl rfl).mono ?_
  rintro e w5 ⟨rfl, dv5, hbx5, ho5, hbl5, hsz5⟩
  have hq5 : Below B0 w w5 := hq4.trans hbl5
  clear hbx4 ho4 hq4 hbl5 hsz4
  obtain ⟨f1, f2⟩ := hbx5.facts
  go_wp2_with fail
  go_ret2
  refine ⟨dv5, rfl, ?_, ?_⟩
  · rw [HB.out]; exact ho5.mono (by omega)
  · rw [HB.out]; exact hq5

set_option maxHeartbeats 400000 in
theorem form_no (va : Option Addr) (cap : Nat) (p : List UInt8) (n : Int) (w : World) (hp : p.length ≤ maxLen) (h : formB n p = false) :
    Calls Tryz.prog 19 #[.int .i64 n, .slice va p.length cap] w fun e w' => e = .returned (.tuple #[.slice none 0 0, .int .i64 2]) ∧ w = w' := by
  unfold maxLen at hp
  unfold formB at h
  by_cases h1 : 1 ≤ n
  · have t1 : decide ((n : Int) < (1 : Int)) = false := by simp; omega
    by_cases h2 : n ≤ 65536
    · have t2 : decide ((65536 : Int) < (n : Int)) = false := by simp; omega
      have h3 : ¬ p.length ≤ 4096 := by simpa [h1, h2] using h
      have t3 : decide ((4096 : Int) < (p.length : Int)) = true := by simp; omega
      clear h h1 h2 h3
      go_enter Tryz.func19, Tryz.ntmps19
      go_wp2_with fail
      go_ret2
      exact ⟨rfl, rfl⟩
    · have t2 : decide ((65536 : Int) < (n : Int)) = true := by simp; omega
      clear h h1 h2
      go_enter Tryz.func19, Tryz.ntmps19
      go_wp2_with fail
      go_ret2
      exact ⟨rfl, rfl⟩
  · have t1 : decide ((n : Int) < (1 : Int)) = true := by simp; omega
    clear h h1
    go_enter Tryz.func19, Tryz.ntmps19
    go_wp2_with fail
    go_ret2
    exact ⟨rfl, rfl⟩
end Go.Proofs.YtkdlimigepkepaaGreat
