/- The reference of layer 37: number, check, spread. No conditions beyond sizes. -/
import Derived.Test.YtkdlimigepkepaaGreatOwnI
import Derived.Test.YtkdlimigepkepaaGreatJSpec
import Derived.IntWalk
namespace Go.Proofs.YtkdlimigepkepaaGreat
open Go.RowKit
set_option linter.unusedVariables false

theorem chk_bound (l : List UInt8) : ∀ k, chkI l k ≤ 2 ^ 32 - 1 := fun k => by have := (chkI_bd l k).2; omega

set_option maxRecDepth 100000 in
set_option maxHeartbeats 1000000 in
theorem check_ref (K : Nat) (v : Value) (l : List UInt8) (w : World) (h : Byts K w v l) (hl30 : l.length ≤ 2 ^ 21) :
    Calls Tryz.prog 10 #[v] w fun e w' => e = .returned (.int .i64 (chkM l)) ∧ w = w' := by
  rcases h.cases with ⟨a, cap, rfl, rfl, hm, _⟩ | ⟨b, o, cap, rfl, h0, hl, hm, hb, hc⟩
  · go_enter Tryz.func10, Tryz.ntmps10
    go_wp2
    go_rounds 1
    go_ret
    exact ⟨rfl, rfl⟩
  · unfold maxLen at hm
    have HC := Lib.hid hc
    clear hc h
    go_enter Tryz.func10, Tryz.ntmps10
    go_wp2
    go_loop [3, 4] (fun s3 s4 => ∃ k : Nat, k ≤ l.length ∧ s4 = .int .i64 k ∧ s3 = .int .i64 (chkI l k)) (fun s3 s4 => l.length - (intOf s4).toNat)
    case atStart => exact ⟨0, Nat.zero_le _, rfl, rfl⟩
    case round =>
      obtain ⟨k, hk, rfl, rfl⟩ := hrel
      by_cases hlt : k < l.length
      · have hcell := HC.out k hlt
        obtain ⟨x, hx⟩ : ∃ x, ((l[k]?.getD 0).toNat : Int) = x := ⟨_, rfl⟩
        have hx0 : 0 ≤ x := by omega
        have hx1 : x < 256 := by have := u8_lt (l[k]?.getD 0); omega
        have hst := chkI_step l k hlt x hx
        have HST := Lib.hid hst
        simp only [B, hx] at hcell
        obtain ⟨c1, c2⟩ := chkI_bd l k
        obtain ⟨C, hC⟩ : ∃ C, chkI l k = C := ⟨_, rfl⟩
        rw [hC] at c1 c2 HST ⊢
        obtain ⟨y, hy⟩ : ∃ y, ((k : Int) + 1) * x = y := ⟨_, rfl⟩
        have hy0 : 0 ≤ y := by rw [← hy]; exact Int.mul_nonneg (by omega) hx0
        have hy1 : y ≤ (2 ^ 21) * 256 := by rw [← hy]; exact Int.mul_le_mul (by omega) (by omega) hx0 (by omega)
        obtain ⟨r, hr⟩ : ∃ r, (C + y).tmod 4294967296 = r := ⟨_, rfl⟩
        have hr' : Hid (r = chkI l (k + 1)) := by
          unfold Hid
          have h1 := HST.out
          rw [← hr, Int.tmod_eq_emod_of_nonneg (by omega), ← h1, ← hy]
          have h2 : ((k : Int) + 1) % 4294967296 = (k : Int) + 1 := Int.emod_eq_of_lt (by omega) (by omega)
          rw [h2]
          omega
        have e1 : IntKind.i64.wrap (((k : Int) + 1) * x) = y := by rw [hy]; exact IntWalk.i64_in _ (by omega)
        have e2 : IntKind.i64.wrap (C + y) = C + y := IntWalk.i64_in _ (by omega)
        clear hst hx hC hy c1 c2 hy0 hy1
        go_wp2
        go_round
        case rel => exact ⟨k + 1, by omega, by go_num, by rw [hr'.out]⟩
        case measure => simp [intOf]; omega
      · obtain rfl : k = l.length := by omega
        have hr' : Hid (chkI l l.length = chkM l) := by unfold Hid chkM; exact chkI_all l _ (Nat.le_refl _)
        go_wp2
        go_ret
        exact ⟨by rw [← hr'.out]; rfl, rfl⟩

set_option maxRecDepth 100000 in
set_option maxHeartbeats 1000000 in
theorem number_ref (K : Nat) (v : Value) (l : List UInt8) (w : World) (h : Byts K w v l) (hl4 : l.length ≤ 4) :
    Calls Tryz.prog 42 #[v] w fun e w' => e = .returned (.int .i64 (leN l : Nat)) ∧ w = w' := by
  rcases h.cases with ⟨a, cap, rfl, rfl, hm, _⟩ | ⟨b, o, cap, rfl, h0, hl, hm, hb, hc⟩
  · go_enter Tryz.func42, Tryz.ntmps42
    go_wp2
    go_rounds 1
    go_ret
    exact ⟨rfl, rfl⟩
  · unfold maxLen at hm
    have HC := Lib.hid hc
    clear hc h
    go_enter Tryz.func42, Tryz.ntmps42
    go_wp2
    go_loop [3, 4] (fun s3 s4 => ∃ j : Nat, j ≤ l.length ∧ s4 = .int .i64 ((j : Int) - 1) ∧ s3 = .int .i64 (leN (l.drop j) : Nat)) (fun s3 s4 => (intOf s4 + 1).toNat)
    case atStart => exact ⟨l.length, Nat.le_refl _, rfl, by rw [List.drop_length]; rfl⟩
    case round =>
      obtain ⟨j, hj, rfl, rfl⟩ := hrel
      by_cases hlt : 0 < j
      · obtain ⟨m, rfl⟩ : ∃ m, j = m + 1 := ⟨j - 1, by omega⟩
        have hcell := HC.out m (by omega)
        obtain ⟨x, hx⟩ : ∃ x, ((l[m]?.getD 0).toNat : Int) = x := ⟨_, rfl⟩
        have hx0 : 0 ≤ x := by omega
        have hx1 : x < 256 := by have := u8_lt (l[m]?.getD 0); omega
        have hd := leN_drop l m (by omega)
        have hb2 := leN_lt (l.drop (m + 1))
        have hb3 : (l.drop (m + 1)).length ≤ 3 := by simp; omega
        have hb4 : 256 ^ (l.drop (m + 1)).length ≤ 256 ^ 3 := Nat.pow_le_pow_right (by omega) hb3
        obtain ⟨y, hy⟩ : ∃ y, leN (l.drop (m + 1)) = y := ⟨_, rfl⟩
        rw [hy] at hd hb2 ⊢
        have hyb : y ≤ 2 ^ 24 - 1 := by omega
        have hd' : Hid ((leN (l.drop m) : Int) = (y : Int) * 256 + x) := by unfold Hid; rw [← hx]; omega
        simp only [B, hx] at hcell
        have e0 : (((m + 1 : Nat) : Int) - 1) = (m : Int) := by omega
        have hml : m < l.length := by omega
        rw [e0]
        clear hd hb2 hb3 hb4 hx hy e0
        go_wp2
        go_round
        case rel => exact ⟨m, by omega, by go_num, by rw [hd'.out]⟩
        case measure => simp [intOf]
      · obtain rfl : j = 0 := by omega
        go_wp2
        go_ret
        exact ⟨rfl, rfl⟩

/-- spread returns the bytes of a number. -/
theorem le_snoc (k n : Nat) : le (k + 1) n = le k n ++ [UInt8.ofNat (n / 256 ^ k)] := by
  induction k generalizing n with
  | zero => simp [le]
  | succ k ih =>
    have h := ih (n / 256)
    rw [Nat.div_div_eq_div_mul, ← Nat.pow_succ'] at h
    show UInt8.ofNat n :: le (k + 1) (n / 256) = _
    rw [h]; rfl

set_option maxRecDepth 100000 in
set_option maxHeartbeats 1000000 in
theorem spread_ref (k n : Nat) (k' n' : Int) (w : World) (hk' : k' = k) (hn' : n' = n) (hk : k ≤ 4) (hn : n ≤ 2 ^ 32 - 1) :
    Calls Tryz.prog 9 #[.int .i64 n', .int .i64 k'] w fun e w' => ∃ v', e = .returned v' ∧ OwnB w.heap.size w' v' (le k n) ∧ Below w.heap.size w w' := by
  subst hk' hn'
  go_enter Tryz.func9, Tryz.ntmps9
  go_wp2
  go_loopw [0, 5, 6] (fun s0 s5 s6 wr => ∃ (j m : Nat) (cur : List UInt8), j ≤ k ∧ m ≤ 2 ^ 32 - 1 ∧ s6 = .int .i64 j ∧ s0 = .int .i64 m ∧ OwnB w.heap.size wr s5 cur ∧ cur ++ le (k - j) m = le k n ∧ Below w.heap.size w wr) (fun s0 s5 s6 _ => k - (intOf s6).toNat)
  case atStart => exact ⟨0, n, [], Nat.zero_le _, hn, rfl, rfl, OwnB.nil _ _, rfl, Below.refl _ _⟩
  case round =>
    obtain ⟨j, m, cur, hj, hm, rfl, rfl, ho, hcur, hbl⟩ := hrel
    have HCU := Lib.hid hcur
    have hcl : cur.length + (k - j) = k := by have := congrArg List.length hcur; simpa [le_length] using this
    clear hcur
    by_cases hlt : j < k
    · have hone := Byts.one wr ((m : Int) % 256) 5 (UInt8.ofNat m) (u8_of m)
      have hb1 : cur.length + [UInt8.ofNat m].length ≤ 2 ^ 46 := by rw [List.length_singleton]; omega
      have hsz := hbl.size
      have htm : (m : Int).tmod 256 = (m : Int) % 256 := Int.tmod_eq_emod_of_nonneg (by omega)
      have htd : (m : Int).tdiv 256 = (m : Int) / 256 := Int.tdiv_eq_ediv_of_nonneg (by omega)
      go_wp2_with (at_builtin; refine wpList_append_B rfl (.tmp 12) (.tmp 16) rfl rfl rfl (ho.alloc _) hone hb1 (by simp; omega) ?_; intro v1 w1 ho1 hg1 hat1; obtain ⟨ra, rn, rc, rfl⟩ := ownBlock_of_OwnB ho1)
      have hbl1 : Below w.heap.size w w1 := (hbl.alloc hsz _).trans (below_of_grown hg1 (fun r hr => (ownsRow_cells ho hr).1) (by simp; omega))
      refine ⟨⟨j + 1, m / 256, cur ++ [UInt8.ofNat m], by omega, by omega, by go_num, by rw [show ((m : Int) / 256) = ((m / 256 : Nat) : Int) by omega], ho1, ?_, hbl1⟩, ?_⟩
      · have hle : le (k - j) m = UInt8.ofNat m :: le (k - (j + 1)) (m / 256) := by
          obtain ⟨i, hi⟩ : ∃ i, k - j = i + 1 := ⟨k - j - 1, by omega⟩
          rw [hi, show k - (j + 1) = i by omega]; rfl
        rw [← HCU.out, hle, List.append_assoc]; rfl
      · simp [intOf]; omega
    · obtain rfl : j = k := by omega
      go_wp2
      go_ret
      refine ⟨_, rfl, ?_, hbl⟩
      have := HCU.out
      rw [Nat.sub_self, le, List.append_nil] at this
      rw [← this]; exact ho
end Go.Proofs.YtkdlimigepkepaaGreat
