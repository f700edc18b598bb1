/- The leaves of package journal: checksum, take, number. No conditions beyond the readings of the arguments. -/
import Derived.Test.YtkdlimigepkepaaGreatLib
namespace Go.Proofs.YtkdlimigepkepaaGreat
open Go.RowKit
set_option linter.unusedVariables false

/-- The sum of bytes, each multiplied by its place (from p on). -/
def chkFrom (p : Nat) : List UInt8 → Nat
  | [] => 0
  | b :: r => p * b.toNat + chkFrom (p + 1) r
def chk (l : List UInt8) : Nat := chkFrom 1 l

theorem chkFrom_append (p : Nat) (a b : List UInt8) : chkFrom p (a ++ b) = chkFrom p a + chkFrom (p + a.length) b := by
  induction a generalizing p with
  | nil => simp [chkFrom]
  | cons x a ih => simp [chkFrom, ih]; rw [show p + 1 + a.length = p + (a.length + 1) by omega]; omega

theorem chk_take (l : List UInt8) (k : Nat) (h : k < l.length) : chk (l.take (k + 1)) = chk (l.take k) + (k + 1) * (l[k]?.getD 0).toNat := by
  rw [List.take_succ_eq_append_getElem h]
  unfold chk
  rw [chkFrom_append]
  have hl : (l.take k).length = k := by rw [List.length_take]; omega
  have e : (l[k]?.getD 0) = l[k] := by simp [h]
  rw [e, hl]
  simp only [chkFrom, Nat.add_zero]
  rw [Nat.add_comm 1 k]

/-- The checksum of the first k bytes. -/
def chkI (l : List UInt8) (k : Nat) : Int := ((chk (l.take k) % 4294967296 : Nat) : Int)
theorem chkI_zero (l : List UInt8) : chkI l 0 = 0 := rfl
theorem chkI_bd (l : List UInt8) (k : Nat) : 0 ≤ chkI l k ∧ chkI l k < 4294967296 := by unfold chkI; omega
theorem chkI_all (l : List UInt8) (k : Nat) (h : l.length ≤ k) : chkI l k = ((chk l % 4294967296 : Nat) : Int) := by
  unfold chkI; rw [List.take_of_length_le h]
theorem chkI_step (l : List UInt8) (k : Nat) (h : k < l.length) (x : Int) (hx : ((l[k]?.getD 0).toNat : Int) = x) :
    (chkI l k + ((k : Int) + 1) % 4294967296 * x % 4294967296) % 4294967296 = chkI l (k + 1) := by
  unfold chkI
  rw [chk_take l k h, ← hx]
  generalize (l[k]?.getD 0).toNat = c
  generalize chk (l.take k) = d
  have e : ((k : Int) + 1) % 4294967296 * (c : Int) % 4294967296 = (((k + 1) * c : Nat) : Int) % 4294967296 := by
    rw [Int.mul_emod, Int.emod_emod_of_dvd _ (Int.dvd_refl _), ← Int.mul_emod]; push_cast; rfl
  rw [e]
  omega

/-- The checksum of bytes. -/
def chkM (l : List UInt8) : Int := ((chk l % 4294967296 : Nat) : Int)
theorem chkM_bd (l : List UInt8) : 0 ≤ chkM l ∧ chkM l ≤ 2 ^ 32 - 1 := by unfold chkM; omega

theorem ret_int {k : IntKind} {a b : Int} (h : a = b) : Ending.returned (.int k a) = .returned (.int k b) := by rw [h]

set_option maxHeartbeats 400000 in
theorem checksum_any (K : Nat) (v : Value) (l : List UInt8) (w : World) (h : Byts K w v l) :
    Calls Tryz.prog 40 #[v] w fun e w' => e = .returned (.int .u32 (chkM l)) ∧ w = w' := by
  rcases h.cases with ⟨a, cap, rfl, rfl, hm, _⟩ | ⟨b, o, cap, rfl, h0, hl, hm, hb, hc⟩
  · go_enter Tryz.func40, Tryz.ntmps40
    go_wp2
    go_rounds 1
    go_ret
    exact ⟨rfl, rfl⟩
  · unfold maxLen at hm
    go_enter Tryz.func40, Tryz.ntmps40
    go_wp2
    go_loop [3, 8] (fun s i => ∃ k : Nat, k ≤ l.length ∧ i = .int .i64 k ∧ s = .int .u32 (chkI l k)) (fun _ i => l.length - (intOf i).toNat)
    case atStart => exact ⟨0, Nat.zero_le _, rfl, rfl⟩
    case round =>
      obtain ⟨k, hk, rfl, rfl⟩ := hrel
      obtain ⟨x, hx⟩ : ∃ x, ((l[k]?.getD 0).toNat : Int) = x := ⟨_, rfl⟩
      have hcell : k < l.length → w.cell? ⟨b, o + k, none⟩ = some (.int .u8 x) := fun hk => hx ▸ hc k hk
      have hx0 : 0 ≤ x := by omega
      have hx1 : x < 256 := by have := u8_lt (l[k]?.getD 0); omega
      have HX : Hid (((l[k]?.getD 0).toNat : Int) = x) := hx
      clear hx hc
      go_wp2
      · have hlt : k < l.length := by assumption
        go_round
        case rel => exact ⟨k + 1, by omega, by go_num, by rw [← chkI_step l k hlt x HX.out]⟩
        case measure => simp [intOf]; omega
      · go_ret
        exact ⟨ret_int (chkI_all l k (by omega)), rfl⟩

/-- The cells of a reader. -/
def Rd (w : World) (R : Nat) (v : Value) (a c e : Int) : Prop :=
  w.heap[R]? = some (.cells #[v, .int .i64 a, .int .i64 c, .int .i64 e] 79 (0, 0))

theorem Rd.facts {w : World} {R : Nat} {v : Value} {a c e : Int} (h : Rd w R v a c e) :
    w.cell? ⟨R, 0, none⟩ = some v ∧ w.cell? ⟨R, 1, none⟩ = some (.int .i64 a) ∧ w.cell? ⟨R, 2, none⟩ = some (.int .i64 c) ∧ w.cell? ⟨R, 3, none⟩ = some (.int .i64 e) ∧
    w.frozen? ⟨R, 1, none⟩ = false ∧ w.frozen? ⟨R, 2, none⟩ = false ∧ w.frozen? ⟨R, 3, none⟩ = false := by
  unfold Rd at h
  simp [World.cell?, World.frozen?, h]

theorem Rd.drewN {w : World} {R : Nat} {v : Value} {a c e : Int} (h : Rd w R v a c e) (n : Nat) : Rd (w.drewN n) R v a c e := h
theorem Rd.lt {w : World} {R : Nat} {v : Value} {a c e : Int} (h : Rd w R v a c e) : R < w.heap.size := (Array.getElem?_eq_some_iff.1 h).1

theorem heap_setCell_same (w : World) (R : Nat) (i : Nat) (cs : Array Value) (t : TypeId) (x : Value) (h : w.heap[R]? = some (.cells cs t (0, 0))) :
    (w.setCell ⟨R, i, none⟩ x).heap[R]? = some (.cells (cs.setIfInBounds i x) t (0, 0)) := by
  simp [World.setCell, Array.getElem?_modify, h]

theorem Rd.set1 {w : World} {R : Nat} {v : Value} {a c e : Int} (h : Rd w R v a c e) (x : Int) : Rd (w.setCell ⟨R, 1, none⟩ (.int .i64 x)) R v x c e :=
  heap_setCell_same w R 1 _ _ _ h
theorem Rd.set2 {w : World} {R : Nat} {v : Value} {a c e : Int} (h : Rd w R v a c e) (x : Int) : Rd (w.setCell ⟨R, 2, none⟩ (.int .i64 x)) R v a x e :=
  heap_setCell_same w R 2 _ _ _ h
theorem Rd.set3 {w : World} {R : Nat} {v : Value} {a c e : Int} (h : Rd w R v a c e) (x : Int) : Rd (w.setCell ⟨R, 3, none⟩ (.int .i64 x)) R v a c x :=
  heap_setCell_same w R 3 _ _ _ h

theorem grownBy_setCell (w : World) (R i : Nat) (x : Value) : w.grownBy (w.setCell ⟨R, i, none⟩ x) (some R) :=
  ⟨rfl, rfl, rfl, by simp [World.setCell], fun k _ hk => Below.heap_setCell _ _ _ _ (fun e => hk (by simp at e; rw [e]))⟩
theorem grownBy_drewN (w : World) (n : Nat) (r : Option Nat) : w.grownBy (w.drewN n) r := ⟨rfl, rfl, rfl, Nat.le_refl _, fun _ _ _ => rfl⟩
theorem Byts.grown {K : Nat} {w w' : World} {v : Value} {l : List UInt8} {R : Nat} (h : Byts K w v l) (hg : w.grownBy w' (some R)) (hK : K ≤ R) : Byts K w' v l := by
  obtain ⟨a, cap, rfl, hl, hm, hz, hc⟩ := h
  refine ⟨a, cap, rfl, hl, hm, hz, fun i hi => ?_⟩
  obtain ⟨b, o, rfl, hbK, hcell⟩ := hc i hi
  exact ⟨b, o, rfl, hbK, hg.cell hcell (by simp; omega)⟩

theorem Byts.sub {K : Nat} {w : World} {v : Option Addr} {cap : Nat} {l : List UInt8} (h : Byts K w (.slice v l.length cap) l) (a n : Nat) (hn : a + n ≤ l.length) :
    Byts K w (.slice (v.map (·.add a)) n (cap - a)) ((l.drop a).take n) := by
  obtain ⟨a', cap', he, hl, hm, hz, hc⟩ := h
  simp only [Value.slice.injEq, true_and] at he
  obtain ⟨rfl, rfl⟩ := he
  have hlen : ((l.drop a).take n).length = n := by simp; omega
  refine ⟨_, cap - a, by rw [hlen], by omega, by omega, fun h => by rw [hz (by simpa using h)]; omega, fun i hi => ?_⟩
  rw [hlen] at hi
  obtain ⟨b, o, rfl, hb, hcell⟩ := hc (a + i) (by omega)
  refine ⟨b, o + a, ?_, hb, ?_⟩
  · simp only [Option.map_some, Addr.add]
    by_cases h0 : a = 0
    · simp [h0]
    · simp [h0]
  · rw [Nat.add_assoc, hcell]
    congr 3
    simp [List.getElem?_drop, hi]

theorem Byts.take {K : Nat} {w : World} {v : Option Addr} {cap : Nat} {l : List UInt8} (h : Byts K w (.slice v l.length cap) l) (n : Nat) (hn : n ≤ l.length) :
    Byts K w (.slice v n cap) (l.take n) := by
  obtain ⟨a', cap', he, hl, hm, hz, hc⟩ := h
  simp only [Value.slice.injEq, true_and] at he
  obtain ⟨rfl, rfl⟩ := he
  have hlen : (l.take n).length = n := by simp; omega
  refine ⟨_, cap, by rw [hlen], by omega, by omega, hz, fun i hi => ?_⟩
  rw [hlen] at hi
  obtain ⟨b, o, rfl, hb, hcell⟩ := hc i (by omega)
  refine ⟨b, o, rfl, hb, ?_⟩
  rw [hcell]
  congr 3
  simp [hi]

set_option maxHeartbeats 400000 in
theorem take_no (R : Nat) (v : Option Addr) (len cap : Nat) (a c e n : Int) (w : World) (hr : Rd w R (.slice v len cap) a c e) (hm : len ≤ maxLen)
    (_h0 : 0 ≤ a) (_h1 : a ≤ len) (hy : (len : Int) - a < n) :
    Calls Tryz.prog 71 #[.pointer (some ⟨R, 0, none⟩), .int .i64 n] w fun e' w' => e' = .returned (.tuple #[.slice none 0 0, .bool false]) ∧ Rd w' R (.slice v len cap) a c e ∧ w.grownBy w' (some R) := by
  unfold maxLen at hm
  obtain ⟨c0, c1, c2, c3, f1, f2, f3⟩ := hr.facts
  go_enter Tryz.func71, Tryz.ntmps71
  go_wp2
  go_quiet (fail)
  go_wp2
  go_ret2
  exact ⟨rfl, hr.drewN _, grownBy_drewN _ _ _⟩

set_option maxHeartbeats 400000 in
theorem take_raw (R : Nat) (v : Option Addr) (len cap : Nat) (a c e n : Int) (w : World) (hr : Rd w R (.slice v len cap) a c e) (hl : len ≤ cap) (hm : cap ≤ maxLen)
    (h0 : 0 ≤ a) (h1 : a ≤ len) (hn : 0 ≤ n) (hn2 : n ≤ 5000) (hy : n ≤ (len : Int) - a) (hca : a < cap) :
    Calls Tryz.prog 71 #[.pointer (some ⟨R, 0, none⟩), .int .i64 n] w fun e' w' =>
      e' = .returned (.tuple #[.slice (v.map (·.add a.toNat)) n.toNat (cap - a.toNat), .bool true]) ∧ Rd w' R (.slice v len cap) (a + n) c e ∧ w.grownBy w' (some R) := by
  unfold maxLen at hm
  obtain ⟨c0, c1, c2, c3, f1, f2, f3⟩ := hr.facts
  have hne : ¬ cap = a.toNat := by omega
  have ht : (a + n).toNat - a.toNat = n.toNat := by omega
  have HT : Hid ((a + n).toNat - a.toNat = n.toNat) := ht
  clear ht
  go_enter Tryz.func71, Tryz.ntmps71
  go_wp2
  go_quiet (fail)
  go_wp2
  go_quiet (fail)
  go_wp2
  go_ret2
  refine ⟨?_, ?_, ?_⟩
  · simp [HT.out]
  · exact (hr.drewN _).set1 _
  · exact ((grownBy_drewN _ _ _).trans (grownBy_setCell _ _ _ _)).trans (grownBy_drewN _ _ _)
set_option maxHeartbeats 400000 in
theorem take_raw0 (R : Nat) (v : Option Addr) (len cap : Nat) (a c e n : Int) (w : World) (hr : Rd w R (.slice v len cap) a c e) (hl : len ≤ cap) (hm : cap ≤ maxLen)
    (h0 : 0 ≤ a) (h1 : a ≤ len) (hn : 0 ≤ n) (_hn2 : n ≤ 5000) (hy : n ≤ (len : Int) - a) (hca : a = cap) :
    Calls Tryz.prog 71 #[.pointer (some ⟨R, 0, none⟩), .int .i64 n] w fun e' w' =>
      e' = .returned (.tuple #[.slice v 0 0, .bool true]) ∧ Rd w' R (.slice v len cap) (a + n) c e ∧ w.grownBy w' (some R) := by
  unfold maxLen at hm
  obtain rfl : n = 0 := by omega
  obtain rfl : len = cap := by omega
  subst hca
  obtain ⟨c0, c1, c2, c3, f1, f2, f3⟩ := hr.facts
  go_enter Tryz.func71, Tryz.ntmps71
  go_wp2
  go_quiet (fail)
  go_wp2
  go_quiet (fail)
  go_wp2
  go_ret2
  refine ⟨?_, ?_, ?_⟩
  · simp
  · exact (hr.drewN _).set1 _
  · exact ((grownBy_drewN _ _ _).trans (grownBy_setCell _ _ _ _)).trans (grownBy_drewN _ _ _)

/-- take, where there are so many bytes. -/
theorem take_yes (K R : Nat) (v : Value) (l : List UInt8) (a n : Nat) (c e : Int) (w : World) (hv : Byts K w v l) (hK : K ≤ R) (hr : Rd w R v a c e) (hn : n ≤ 5000) (hy : a + n ≤ l.length) :
    Calls Tryz.prog 71 #[.pointer (some ⟨R, 0, none⟩), .int .i64 n] w fun e' w' =>
      ∃ v', e' = .returned (.tuple #[v', .bool true]) ∧ Byts K w' v' ((l.drop a).take n) ∧ Rd w' R v ((a : Int) + n) c e ∧ w.grownBy w' (some R) := by
  obtain ⟨a', cap, rfl, hl, hm, hz, _⟩ := id hv
  by_cases hca : a < cap
  · refine (take_raw R a' l.length cap a c e n w hr hl hm (by omega) (by omega) (by omega) (by omega) (by omega) (by omega)).mono ?_
    rintro e' w' ⟨rfl, hr', hg⟩
    have hs := (hv.grown hg hK).sub a n hy
    simp only [Int.toNat_natCast]
    exact ⟨_, rfl, hs, hr', hg⟩
  · refine (take_raw0 R a' l.length cap a c e n w hr hl hm (by omega) (by omega) (by omega) (by omega) (by omega) (by omega)).mono ?_
    rintro e' w' ⟨rfl, hr', hg⟩
    have h0 : n = 0 := by omega
    subst h0
    exact ⟨_, rfl, by simpa using Byts.nil a' 0 (by simp [maxLen]) (fun _ => rfl), hr', hg⟩

/-- The number that bytes are, the least significant one first. -/
def leN : List UInt8 → Nat
  | [] => 0
  | b :: r => b.toNat + 256 * leN r
theorem leN_lt (l : List UInt8) : leN l < 256 ^ l.length := by
  induction l with
  | nil => simp [leN]
  | cons b r ih => have := b.toNat_lt; simp only [leN, List.length_cons, Nat.pow_succ]; omega
theorem leN_drop (l : List UInt8) (k : Nat) (h : k < l.length) : leN (l.drop k) = (l[k]?.getD 0).toNat + 256 * leN (l.drop (k + 1)) := by
  rw [List.drop_eq_getElem_cons h]; simp [leN, h]
def leI (l : List UInt8) (k : Nat) : Int := (leN (l.drop k) : Int)
theorem leI_bd (l : List UInt8) (k : Nat) (h : l.length ≤ 4) (hk : 0 < k) : 0 ≤ leI l k ∧ leI l k < 16777216 := by
  unfold leI
  have h1 := leN_lt (l.drop k)
  have h2 : (l.drop k).length ≤ 3 := by simp; omega
  have h3 : 256 ^ (l.drop k).length ≤ 256 ^ 3 := Nat.pow_le_pow_right (by omega) h2
  omega

theorem leI_or (l : List UInt8) (k : Nat) (h : l.length ≤ 4) (hk : k ≤ l.length) (h0 : 0 < k) (x : Int) (hx : ((l[k - 1]?.getD 0).toNat : Int) = x) :
    bits BinOp.or IntKind.i64 (leI l k * 256) x = leI l (k - 1) := by
  obtain ⟨a, b⟩ := leI_bd l k h h0
  have hb := u8_lt (l[k - 1]?.getD 0)
  rw [bits_join .i64 40 (by decide) (fun n a0 a1 => by rw [IntKind.wrap_i64]; omega) 8 (leI l k * 256) x (by omega) (by omega) (by omega) (by omega) (by omega) (by omega)]
  unfold leI
  rw [leN_drop l (k - 1) (by omega), show k - 1 + 1 = k by omega]
  omega

set_option maxRecDepth 100000 in
set_option maxHeartbeats 400000 in
theorem number_yes (K R : Nat) (v : Value) (l : List UInt8) (a n : Nat) (c e : Int) (w : World) (hv : Byts K w v l) (hK : K ≤ R) (hr : Rd w R v a c e) (hn : n ≤ 4) (hn1 : 1 ≤ n) (hy : a + n ≤ l.length) :
    Calls Tryz.prog 70 #[.pointer (some ⟨R, 0, none⟩), .int .i64 n] w fun e' w' =>
      e' = .returned (.tuple #[.int .i64 (leN ((l.drop a).take n)), .bool true]) ∧ Rd w' R v ((a : Int) + n) c e ∧ w.grownBy w' (some R) := by
  have hlen : ((l.drop a).take n).length = n := by simp; omega
  obtain ⟨m, hm⟩ : ∃ m, (l.drop a).take n = m := ⟨_, rfl⟩
  have HM := Lib.hid hm
  go_enter Tryz.func70, Tryz.ntmps70
  go_wp2_with fail
  refine (take_yes K R v l a n c e w hv hK hr (by omega) hy).mono ?_
  rw [hm]; rw [hm] at hlen
  rintro e' w1 ⟨v', rfl, hb, hr1, hg1⟩
  clear hm hv hr
  rcases hb.cases with ⟨x, cap, rfl, rfl, _, _⟩ | ⟨b, o, cap, rfl, h0, hl, hmx, hbK, hc⟩
  · simp at hlen; omega
  subst hlen
  unfold maxLen at hmx
  clear hb
  have HR := Lib.hid hr1; clear hr1
  have HG := Lib.hid hg1; clear hg1
  go_wp2_with fail
  go_loop [8, 9] (fun s i => ∃ k : Nat, k ≤ m.length ∧ i = .int .i64 ((k : Int) - 1) ∧ s = .int .i64 (leI m k)) (fun _ i => (intOf i + 1).toNat)
  case atStart => exact ⟨m.length, Nat.le_refl _, rfl, by simp [leI, leN]⟩
  case round =>
    obtain ⟨k, hk, rfl, rfl⟩ := hrel
    by_cases hk0 : 0 < k
    · obtain ⟨x, hx⟩ : ∃ x, ((m[k - 1]?.getD 0).toNat : Int) = x := ⟨_, rfl⟩
      have hcell : w1.cell? ⟨b, o + (k - 1), none⟩ = some (.int .u8 x) := hx ▸ hc (k - 1) (by omega)
      have hx0 : 0 ≤ x := by omega
      have hx1 : x < 256 := by have := u8_lt (m[k - 1]?.getD 0); omega
      have HX : Hid (((m[k - 1]?.getD 0).toNat : Int) = x) := hx
      obtain ⟨hd0, hd1⟩ := leI_bd m k (by omega) hk0
      have hd2 : leI m k ≤ 2 ^ 24 - 1 := by omega
      clear hd1
      clear hx hc
      go_wp2_with fail
      go_round
      case rel => exact ⟨k - 1, by omega, by congr 1; omega, by rw [leI_or m k hn hk hk0 x HX.out]⟩
      case measure => simp [intOf]; omega
    · obtain rfl : k = 0 := by omega
      go_wp2_with fail
      go_ret2
      exact ⟨by rw [HM.out]; rfl, HR.out, HG.out⟩

set_option maxHeartbeats 400000 in
theorem number_no (R : Nat) (v : Option Addr) (len cap : Nat) (a c e n : Int) (w : World) (hr : Rd w R (.slice v len cap) a c e) (hm : len ≤ maxLen)
    (h0 : 0 ≤ a) (h1 : a ≤ len) (hy : (len : Int) - a < n) :
    Calls Tryz.prog 70 #[.pointer (some ⟨R, 0, none⟩), .int .i64 n] w fun e' w' => e' = .returned (.tuple #[.int .i64 0, .bool false]) ∧ Rd w' R (.slice v len cap) a c e ∧ w.grownBy w' (some R) := by
  go_enter Tryz.func70, Tryz.ntmps70
  go_wp2_with fail
  refine (take_no R v len cap a c e n w hr hm h0 h1 hy).mono ?_
  rintro e' w1 ⟨rfl, hr1, hg1⟩
  go_wp2_with fail
  go_rounds 1
  go_ret2
  exact ⟨rfl, hr1, hg1⟩
end Go.Proofs.YtkdlimigepkepaaGreat
